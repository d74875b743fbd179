/-
  The walks over 'slices.Clone' of entries, and 'register.Clone'.
  A store into a block that is known whole, and what it leaves: only that block has turned.
  What stays where few blocks turn.
  A region that draws its order, by a schedule that parts in two: where either of two operations may come next.
  A region that draws its order, by a tree of schedules: where one, two or three operations may come next.
  The walks over epochs.Next and the document's.
  A ballot in memory; its short functions.
  Rows of structs, whatever struct: a way of writing each one as cells; slices that read as lists; rows of the call's own.
  Elements put into a row of the call's own, and its end cleared.
  Slices that come in, of elements of any number of cells: entries, registers.
  A slice of numbers as an argument.
  Rows of numbers of the call's own: appended to, read, written.
  The walks over Epoch, Stamp, list, Sites of a ballot.
  The walks over Won and Sites of a ballot.
  The walk over put of a ballot.
  The walk over New of a ballot.
  Rows of mail.
-/
import Derived.Deep.LoopGhost
import Derived.Lib.Hide
import Derived.Lib.SliceRun
import Derived.Test.YtdphfhenjndkkaaOwnersMailK1
import Derived.Test.YtdphfhenjndkkaaOwnersMailK2
set_option linter.unusedSimpArgs false
set_option linter.unusedVariables false
set_option maxRecDepth 100000
namespace Go.Proofs.Ytdphfhenjndkkaa
open Go Go.RowKit Go.Sq Go.Wd Go.Arch

theorem LogAt.none_nil {w : World} {B : Nat} {l : List Ent} {n c : Nat} (h : LogAt w B (none, n, c) l) : l = [] := by
  rcases Nat.eq_zero_or_pos l.length with h0 | h0
  · exact List.eq_nil_of_length_eq_zero h0
  · obtain ⟨b, o, ha, _⟩ := h.2.2.2 h0
    cases ha
theorem Row.log {w : World} {B : Nat} {v : Value} {l : List Ent} (h : Row w B v l) : ∃ sl : SlcE, v = .slice sl.1 sl.2.1 sl.2.2 ∧ LogAt w w.heap.size sl l := by
  obtain ⟨A, c, rfl, h1, h2, h3⟩ := h.form
  exact ⟨(A, l.length, c), rfl, rfl, h1, h2, h3⟩
theorem Row.far {w w' : World} {B k : Nat} {v : Value} {l : List Ent} (h : Row w B v l) (hg : w.grownBy w' (some k)) (hk : k < B) : Row w' B v l := h.kept hg (by
  cases hv : v.ownBlock with
  | none => exact .inl rfl
  | some g => exact .inr (fun e => by have := (h.lt g hv).1; cases e; omega))
theorem Row.base {w : World} {B B' : Nat} {v : Value} {l : List Ent} (h : Row w B v l) (hB : B' ≤ B) : Row w B' v l := by
  refine ⟨h.1, ?_⟩
  rcases h.2 with h' | ⟨g, cap, cur, h1, h2, r⟩
  · exact .inl h'
  · exact .inr ⟨g, cap, cur, h1, Nat.le_trans hB h2, r⟩
theorem eql_nil (A : Option Addr) (n c : Nat) (w : World) : (binOp .eql 35 (.slice A n c) (.slice none 0 0)).run Try.prog w = .ok (.bool A.isNone) w := by
  have h : (Op.equalIn (9999 + 1) 35 (.slice A n c) (.slice none 0 0)).run Try.prog w = .ok A.isNone w := by
    rw [Op.equalIn]
    cases A <;> simp [run_underlying Try.underlying35]
  have h2 : Op.equal 35 (.slice A n c) (.slice none 0 0) = Op.equalIn (9999 + 1) 35 (.slice A n c) (.slice none 0 0) := rfl
  simp [binOp, h2, h]
theorem Row.nil (w : World) (B : Nat) : Row w B (.slice none 0 0) [] := World.ownsRow_nil _ _ _ _

set_option maxHeartbeats 2000000 in
theorem clone_any (l : List Ent) (A : Option Addr) (c : Nat) (w : World) (hl : LogAt w w.heap.size (A, l.length, c) l) (h2 : l.length ≤ 2000) :
    Calls Try.prog 49 #[.slice A l.length c] w fun e w' => ∃ v, e = .returned v ∧ Row w' w.heap.size v l ∧ Below w.heap.size w w' := by
  have hw := Below.refl w.heap.size w
  cases A with
  | none =>
    have hn := hl.none_nil
    subst hn
    have hq := eql_nil none 0 c w
    go_enter Try.func49, Try.ntmps49
    go_wp2_with fail
    go_ret
    exact ⟨_, rfl, Row.nil _ _, hw⟩
  | some a =>
    obtain ⟨v', w', hrun, hR, hb⟩ := copy_run l (some a) c w hl.2.2.2 h2
    have HH := Lib.hid (And.intro hR hb)
    have hq := eql_nil (some a) l.length c w
    clear hR hb hl
    go_enter Try.func49, Try.ntmps49
    go_wp2_with (at_builtin; refine wpList_app rfl (by rfl) (by rfl) (by rfl) hrun ?_)
    go_ret
    exact ⟨_, rfl, HH.out⟩

theorem rg_info : (Try.prog.info? 37).map (·.size) = some 4 := by kernel_rfl
theorem rc_info : (Try.prog.info? 53).map (·.size) = some 8 := by kernel_rfl

set_option maxHeartbeats 2000000 in
theorem regclone_any (r : RegS) (sl : SlcE) (w : World) (hl : LogAt w w.heap.size sl r.log) (h2 : r.log.length ≤ 2000) :
    Calls Try.prog 47 #[.agg (rgv r sl).toArray] w fun e w' => ∃ sl' : SlcE, e = .returned (.agg (rgv r sl').toArray) ∧ Row w' w.heap.size (.slice sl'.1 sl'.2.1 sl'.2.2) r.log ∧ Below w.heap.size w w' := by
  obtain ⟨p, v, lg, k⟩ := r
  obtain ⟨A, n, c⟩ := sl
  obtain rfl : n = lg.length := hl.1
  unfold rgv
  dsimp only at h2
  have hb0 : Below w.heap.size w ((w.alloc (.cells #[.int .i64 p, .int .i64 v, .slice A lg.length c, .int .i64 k] 37)).alloc (.cells #[.int .i64 0, .int .i64 0, .slice none 0 0, .int .i64 0] 37)) := ((Below.refl _ _).alloc (Nat.le_refl _) _).alloc (by simp) _
  have B0 := (Blk.new w 37 [.int .i64 p, .int .i64 v, .slice A lg.length c, .int .i64 k]).alloc (.cells #[.int .i64 0, .int .i64 0, .slice none 0 0, .int .i64 0] 37)
  have B1 := Blk.new1 w (.cells #[.int .i64 p, .int .i64 v, .slice A lg.length c, .int .i64 k] 37) 37 [.int .i64 0, .int .i64 0, .slice none 0 0, .int .i64 0]
  have HH := Lib.hid (And.intro hb0 (And.intro B0 (And.intro B1 (hl.keep hb0))))
  clear hb0 B0 B1 hl
  go_enter Try.func47, Try.ntmps47
  go_wp2_with fail
  refine (clone_any lg A c _ HH.out.2.2.2 h2).mono ?_
  rintro e w1 ⟨vl, rfl, hR, hb⟩
  have hw1 := below_trans HH.out.1 hb HH.out.1.size
  have C0 := HH.out.2.1.keep hb
  have C1 := HH.out.2.2.1.keep hb
  have hR' := hR
  obtain ⟨sl', rfl, hL⟩ := hR.log
  clear hb HH
  have d2 := C0.cell 2
  have fr := C0.frozen
  have fr1 := C1.frozen
  have l0 := C0.lt
  have l1 := C1.lt
  have c0 := C0.cell 0
  have c1 := C0.cell 1
  have c3 := C0.cell 3
  have e0 := C1.cell 0
  have e1 := C1.cell 1
  have e2 := C1.cell 2
  have e3 := C1.cell 3
  simp at d2 c0 c1 c3 e0 e1 e2 e3
  go_wp2_with fail
  apply ret_of
  · simp only [results, Try.results47]
    go_simp
    with_reducible rfl
  refine ⟨rfl, sl', rfl, ?_, ?_⟩
  · have g1 : w1.grownBy (w1.setCell ⟨w.heap.size, 2, none⟩ (.slice sl'.1 sl'.2.1 sl'.2.2)) (some w.heap.size) := by (repeat (first | with_reducible apply only_drew | with_reducible refine only_setCell ?_ (by first | exact Or.inl rfl | (right; simp; done) | (right; simp; omega) | (right; omega)) _ | with_reducible refine only_alloc ?_ _ | with_reducible exact World.grownBy.refl _ _ | with_reducible assumption))
    have R1 := hR.far g1 (by simp; omega)
    generalize w1.setCell ⟨w.heap.size, 2, none⟩ (.slice sl'.1 sl'.2.1 sl'.2.2) = w2 at R1 ⊢
    have g2 : w2.grownBy ((((w2.setCell ⟨w.heap.size + 1, 0, none⟩ (.int .i64 p)).setCell ⟨w.heap.size + 1, 1, none⟩ (.int .i64 v)).setCell ⟨w.heap.size + 1, 2, none⟩ (.slice sl'.1 sl'.2.1 sl'.2.2)).setCell ⟨w.heap.size + 1, 3, none⟩ (.int .i64 k)) (some (w.heap.size + 1)) := by (repeat (first | with_reducible apply only_drew | with_reducible refine only_setCell ?_ (by first | exact Or.inl rfl | (right; simp; done) | (right; simp; omega) | (right; omega)) _ | with_reducible refine only_alloc ?_ _ | with_reducible exact World.grownBy.refl _ _ | with_reducible assumption))
    exact Row.base (Row.far R1 g2 (by simp)) (by simp; omega)
  · (repeat (first | with_reducible apply Below.drew | with_reducible refine Below.setCell ?_ (by first | exact Nat.le_refl _ | (simp; done) | (simp; omega) | omega) _ | with_reducible refine Below.alloc ?_ (by first | exact Nat.le_refl _ | (simp; done) | (simp; omega) | omega) _ | with_reducible exact Below.refl _ _ | with_reducible assumption))
end Go.Proofs.Ytdphfhenjndkkaa

set_option linter.unusedSimpArgs false
set_option linter.unusedVariables false
set_option maxRecDepth 100000
namespace Go.Wd
open Go Go.RowKit

theorem grown_setRow (w : World) (g : Nat) (l : Array Value) : w.grownBy (w.setRow g l) (some g) := ⟨rfl, rfl, rfl, by simp, fun k _ hk => setRow_other w g k l (fun e => hk (by rw [e]))⟩
theorem below_grown {B g : Nat} {w w' : World} (hg : w.grownBy w' (some g)) (hB : B ≤ g) (hw : B ≤ w.heap.size) : Below B w w' := ⟨hg.os, hg.tape, hg.output, hg.size, fun k hk => hg.block k (by omega) (by intro e; cases e; omega)⟩
theorem wpList_store_own {P : Program} {w : World} {ops : Array Oper} {rest : List Oper} {o : Oper} {a : Act} {Q : Exit → Act → World → Prop} (hgd : o.guard = none) (ty : TypeId) (x y : Operand) (ho : o.op = .store ty x y)
    (g : Nat) (cs : List Value) (hx : a.eval x = .pointer (some ⟨g, 0, none⟩)) (hy : a.eval y = .agg cs.toArray) (t : TypeId) (old : List Value) (hg : Blk w g t old)
    (hi : (P.info? ty).map (·.size) = some cs.length) (hold : old.length = cs.length) (h1 : ∀ v ∈ cs, v.oneCell' = true)
    (h : ∀ w', Blk w' g t cs → w.grownBy w' (some g) → wpList P ops Q rest (a.put o.dst undef) w') : wpList P ops Q (o :: rest) a w :=
  wpList_store_row hgd ty x y ho g cs.toArray hx hy t old.toArray hg (by simpa using hi) (by simpa using hold)
    (Array.all_eq_true_iff_forall_mem.2 (fun v hv => h1 v (by simpa using hv)))
    (h _ (hg.row cs) (grown_setRow w g _))
end Go.Wd
namespace Go.Proofs.Ytdphfhenjndkkaa
open Go Go.RowKit Go.Sq Go.Wd Go.Arch
theorem Row.logAt {w : World} {B : Nat} {sl : SlcE} {l : List Ent} (h : Row w B (.slice sl.1 sl.2.1 sl.2.2) l) : LogAt w w.heap.size sl l := by
  obtain ⟨s2, he, hl⟩ := h.log
  obtain ⟨a, b, c⟩ := sl
  obtain ⟨a2, b2, c2⟩ := s2
  cases he
  exact hl
/-- A log that lies below, or a row above, stays where only block g turns. -/
theorem LogAt.grown {w w' : World} {B g : Nat} {sl : SlcE} {l : List Ent} (h : LogAt w B sl l) (hB : B ≤ w.heap.size) (hg : w.grownBy w' (some g)) (hb : B ≤ g) : LogAt w' w'.heap.size sl l :=
  (h.below (below_grown hg hb hB)).more (Nat.le_trans hB hg.size)
end Go.Proofs.Ytdphfhenjndkkaa

set_option linter.unusedSimpArgs false
set_option linter.unusedVariables false
set_option maxRecDepth 100000
namespace Go.Proofs.Ytdphfhenjndkkaa
open Go Go.RowKit Go.Sq Go.Wd Go.Arch

/-- A row stays where a block of another type turns. -/
theorem own_beside {w w' : World} {B : Nat} {e : TypeId} {size n q : Nat} {v : Value} {xs : List Value} (h : w.ownsRow B e size v n xs) (hg : w.grownBy w' (some q)) (hq : ∀ cs, w.heap[q]? ≠ some (.cells cs e (0, 0))) : w'.ownsRow B e size v n xs :=
  h.kept hg (by
    rcases h.2 with ⟨rfl, _⟩ | ⟨g, cap, cur, rfl, _, hh, _⟩
    · exact .inl rfl
    · refine .inr (fun e => ?_)
      have e2 : g = q := by simpa [Value.ownBlock] using e
      subst e2
      exact hq _ hh)
theorem blk_not {w : World} {k : Nat} {T U : TypeId} {cs : List Value} (h : Blk w k T cs) (hT : T ≠ U) : ∀ xs, w.heap[k]? ≠ some (.cells xs U (0, 0)) := fun xs e => by
  unfold Blk at h
  rw [h] at e
  injection e with e
  injection e with _ e _
  exact hT e
theorem own_not {w : World} {B : Nat} {T U : TypeId} {size n q : Nat} {v : Value} {xs : List Value} (h : w.ownsRow B T size v n xs) (hq : v.ownBlock = some q) (hT : T ≠ U) : ∀ cs, w.heap[q]? ≠ some (.cells cs U (0, 0)) := fun cs e => by
  rcases h.2 with ⟨rfl, _⟩ | ⟨g, cap, cur, rfl, _, hh, _⟩
  · cases hq
  · have e2 : g = q := by simpa [Value.ownBlock] using hq
    subst e2
    rw [hh] at e
    injection e with e
    injection e with _ e _
    exact hT e
/-- Two blocks turn, at most. -/
def Kept (w w' : World) (r1 r2 : Option Nat) : Prop :=
  w'.os = w.os ∧ w'.tape = w.tape ∧ w'.output = w.output ∧ w.heap.size ≤ w'.heap.size ∧ ∀ k, k < w.heap.size → some k ≠ r1 → some k ≠ r2 → w'.heap[k]? = w.heap[k]?
theorem Kept.of {w W1 W2 W3 : World} {r1 r2 : Option Nat} {x : Nat} (h1 : w.grownBy W1 r1) (h2 : W1.grownBy W2 r2) (h3 : W2.grownBy W3 (some x)) (hx : w.heap.size ≤ x) : Kept w W3 r1 r2 := by
  have s1 := h1.size
  have s2 := h2.size
  have s3 := h3.size
  refine ⟨h3.os.trans (h2.os.trans h1.os), h3.tape.trans (h2.tape.trans h1.tape), h3.output.trans (h2.output.trans h1.output), by omega, fun k hk a b => ?_⟩
  exact (h3.block k (by omega) (by intro e; cases e; omega)).trans ((h2.block k (by omega) b).trans (h1.block k hk a))
theorem Kept.below {w w' : World} {r1 r2 : Option Nat} {B : Nat} (h : Kept w w' r1 r2) (h1 : ∀ k, r1 = some k → B ≤ k) (h2 : ∀ k, r2 = some k → B ≤ k) (hB : B ≤ w.heap.size) : Below B w w' :=
  ⟨h.1, h.2.1, h.2.2.1, h.2.2.2.1, fun k hk => h.2.2.2.2 k (by omega) (fun e => by have := h1 k e.symm; omega) (fun e => by have := h2 k e.symm; omega)⟩
theorem own_block {w w' : World} {B : Nat} {e : TypeId} {size n : Nat} {v : Value} {xs : List Value} (h : w.ownsRow B e size v n xs) (hs : w.heap.size ≤ w'.heap.size) (hb : ∀ g, v.ownBlock = some g → w'.heap[g]? = w.heap[g]?) : w'.ownsRow B e size v n xs := by
  refine ⟨h.1, ?_⟩
  rcases h.2 with h | ⟨g, cap, cur, rfl, h1, h2, r⟩
  · exact .inl h
  · exact .inr ⟨g, cap, cur, rfl, h1, (hb g rfl).trans h2, r⟩
theorem Kept.refl (w : World) (r1 r2 : Option Nat) : Kept w w r1 r2 := ⟨rfl, rfl, rfl, Nat.le_refl _, fun _ _ _ _ => rfl⟩
theorem Kept.trans {w w1 w2 : World} {r1 r2 : Option Nat} (h : Kept w w1 r1 r2) (h' : Kept w1 w2 r1 r2) : Kept w w2 r1 r2 :=
  ⟨h'.1.trans h.1, h'.2.1.trans h.2.1, h'.2.2.1.trans h.2.2.1, Nat.le_trans h.2.2.2.1 h'.2.2.2.1, fun k hk a b => (h'.2.2.2.2 k (by have := h.2.2.2.1; omega) a b).trans (h.2.2.2.2 k hk a b)⟩
theorem Kept.ofBelow {w w' : World} (h : Below w.heap.size w w') (r1 r2 : Option Nat) : Kept w w' r1 r2 := ⟨h.os, h.tape, h.output, h.size, fun k hk _ _ => h.block k hk⟩
theorem Kept.ofGrown {w w' : World} {r1 r2 : Option Nat} (h : w.grownBy w' r1) : Kept w w' r1 r2 := ⟨h.os, h.tape, h.output, h.size, fun k hk a _ => h.block k hk a⟩
theorem Kept.more {w w' : World} {r1 r2 : Option Nat} (h : Kept w w' r1 none) : Kept w w' r1 r2 := ⟨h.1, h.2.1, h.2.2.1, h.2.2.2.1, fun k hk a _ => h.2.2.2.2 k hk a (by simp)⟩
theorem Kept.blk {w w' : World} {r1 r2 : Option Nat} {g : Nat} {T : TypeId} {cs : List Value} (h : Kept w w' r1 r2) (hb : Blk w g T cs) (h1 : some g ≠ r1) (h2 : some g ≠ r2) : Blk w' g T cs := by
  have hl := hb.lt
  unfold Blk at hb ⊢
  rw [h.2.2.2.2 g hl h1 h2, hb]
/-- A row stays where blocks of other types turn. -/
theorem Kept.own {w w' : World} {r1 r2 : Option Nat} {B : Nat} {e : TypeId} {size n : Nat} {v : Value} {xs : List Value} (hk : Kept w w' r1 r2) (h : w.ownsRow B e size v n xs)
    (h1 : ∀ q, r1 = some q → ∀ cs, w.heap[q]? ≠ some (.cells cs e (0, 0))) (h2 : ∀ q, r2 = some q → ∀ cs, w.heap[q]? ≠ some (.cells cs e (0, 0))) : w'.ownsRow B e size v n xs :=
  own_block h hk.2.2.2.1 (fun g hg => by
    rcases h.2 with ⟨rfl, _⟩ | ⟨g', cap, cur, rfl, _, hh, _⟩
    · cases hg
    · obtain rfl : g' = g := by simpa [Value.ownBlock] using hg
      have hlt : g' < w.heap.size := by
        rcases Nat.lt_or_ge g' w.heap.size with h | h
        · exact h
        · rw [Array.getElem?_eq_none h] at hh
          cases hh
      exact hk.2.2.2.2 g' hlt (fun e => h1 g' e.symm _ hh) (fun e => h2 g' e.symm _ hh))
end Go.Proofs.Ytdphfhenjndkkaa

set_option linter.unusedSimpArgs false
set_option linter.unusedVariables false
set_option maxRecDepth 100000
namespace Go.Sq
open Go

section
variable {P : Program} {ops : Array Oper} {Q : Exit → Act → World → Prop} {S : World → Prop}

def onlyIs : List Nat → Nat → Bool
  | [j], i => Nat.beq j i
  | _, _ => false
theorem onlyIs_spec : ∀ {l : List Nat} {i : Nat}, onlyIs l i = true → l = [i]
  | [j], i, h => by rw [Nat.eq_of_beq_eq_true h]
  | [], _, h => by cases h
  | _ :: _ :: _, _, h => by cases h

/-- What is done behind a schedule. -/
def endP (ops : Array Oper) : List (Nat × Bool) → Array Bool → Option (Array Bool)
  | [], l => some l
  | (i, true) :: r, l => if quietOk ops i l then endP ops r (l.setIfInBounds i true) else none
  | (i, false) :: r, l => if Nat.blt i ops.size && onlyIs (Region.ready .any ops l) i then endP ops r (l.setIfInBounds i true) else none

def okTwo (ops : Array Oper) (p p1 p2 : List (Nat × Bool)) : Bool :=
  match endP ops p (upto ops.size 0) with
  | none => false
  | some l => Nat.beq p1.length p2.length && Nat.beq (p.length + p1.length) ops.size && (match p1, p2, Region.ready .any ops l with
    | (i, false) :: r1, (j, false) :: r2, [a, b] => Nat.beq a i && Nat.beq b j && Nat.blt i ops.size && Nat.blt j ops.size && okP ops r1 (l.setIfInBounds i true) && okP ops r2 (l.setIfInBounds j true)
    | _, _, _ => false)

theorem wpAnyH_pre {ds : List (Option Tmp)} (hds : ops.toList.map (·.dst) = ds) (hsel : noSel ops.toList = true) (hQ : ∀ c a d v w, Q (.panic c) (a.put d v) w → Q (.panic c) a w)
    {m : Nat} {last : Array Bool} {K : Act → World → Prop} (hK : ∀ a w, S w → K a w → wpAnyH P .any ops Q S m last a w) :
    ∀ (perm : List (Nat × Bool)) (listed : Array Bool) (a : Act) (w : World), endP ops perm listed = some last → S w → SeqP P ds K Q S (pick ops.toList perm) a w → wpAnyH P .any ops Q S (perm.length + m) listed a w := by
  have hns : Region.noSelect ops = true := by
    unfold Region.noSelect
    rw [← Array.all_toList, List.all_eq_true]
    exact noSel_spec hsel
  intro perm
  induction perm with
  | nil =>
    intro listed a w hok hS h
    simp only [endP, Option.some.injEq] at hok
    subst hok
    rw [List.length_nil, Nat.zero_add]
    exact hK a w hS h
  | cons p r ih =>
    intro listed a w hok hS h
    obtain ⟨i, q⟩ := p
    cases q with
    | true =>
      simp only [endP] at hok
      split at hok
      · rename_i hq
        simp only [quietOk, Bool.and_eq_true, Bool.not_eq_true'] at hq
        obtain ⟨⟨⟨hlt, hun⟩, hdep⟩, hoth⟩ := hq
        have hlt : i < ops.size := Nat.le_of_ble_eq_true hlt
        have hio : ops[i]? = some (nth ops.toList i) := by
          have := nth_get ops.toList i (by simpa using hlt)
          simpa using this
        obtain ⟨v, hs, hrest2⟩ := h
        rw [show ((i, true) :: r).length + m = (r.length + m) + 1 from by simp only [List.length_cons]; omega]
        refine wpAnyH_firstQ hio (Region.noSelect_spec hns) (fun c a w => hQ c a _ v w) (r.length + m) listed a w ?_ ?_ (by unfold YieldsQ; rw [wantedD_eq hds]; exact hs) hS ?_
        · intro j oj hoj hji hunj hno
          have hl := othersOk_spec hoth j oj (by simpa using hoj) (by omega) (by simpa using hunj)
          rcases hl with h1 | h1
          · obtain ⟨e, he, hb⟩ := waitsFor_iff.1 h1
            exact absurd hb.2 (hno e (by simpa using he) hb.1)
          · exact h1
        · rw [mem_ready]
          exact ⟨hun, _, hio, fun e he hb => depsIn_spec hdep e (by simpa using he) hb⟩
        · exact ih _ _ _ hok hS hrest2
      · cases hok
    | false =>
      simp only [endP] at hok
      by_cases hq : (Nat.blt i ops.size && onlyIs (Region.ready .any ops listed) i) = true
      · rw [if_pos hq] at hok
        simp only [Bool.and_eq_true] at hq
        obtain ⟨hlt, hrd⟩ := hq
        have hlt : i < ops.size := Nat.le_of_ble_eq_true hlt
        have hio : ops[i]? = some (nth ops.toList i) := by
          have := nth_get ops.toList i (by simpa using hlt)
          simpa using this
        have hrd2 := onlyIs_spec hrd
        simp only [pick, SeqP] at h
        rw [show ((i, false) :: r).length + m = (r.length + m) + 1 from by simp only [List.length_cons]; omega]
        refine ⟨fun h0 => (by rw [hrd2] at h0; cases h0), fun j hj => ?_⟩
        rw [hrd2] at hj
        obtain rfl : j = i := by simpa using hj
        unfold wpOp
        simp only [hio]
        rw [wantedD_eq hds]
        split
        · rename_i hw
          rw [if_pos hw] at h
          exact .inl (Oper.wp_mono (fun a w h => ⟨h.1, ih _ _ _ hok h.1 h.2⟩) h)
        · rename_i hw
          rw [if_neg hw] at h
          exact ⟨h.1, ih _ _ _ hok h.1 h.2⟩
      · rw [if_neg hq] at hok; cases hok

/-- THE RULE. -/
theorem wp_region_p2 {id : Nat} {a : Act} {w : World} (perm p1 p2 : List (Nat × Bool)) (S : World → Prop) (hm : P.follows .mixedOrders = true)
    (hsel : noSel ops.toList = true) (hok : okTwo ops perm p1 p2 = true) (hS : S w.drew) {ds : List (Option Tmp)} (hds : ops.toList.map (·.dst) = ds)
    (h : ∀ (K : Act → World → Prop) (R : Exit → Act → World → Prop) (T : World → Prop), (∀ a w, T w → Q .normal a w → K a w) → (∀ w, T w → S w) → (∀ w, S w → T w) →
      SeqP P ds (fun a w => SeqP P ds K R T (pick ops.toList p1) a w ∧ SeqP P ds K R T (pick ops.toList p2) a w) R T (pick ops.toList perm) a w.drew) :
    (Code.region id ops true).wp P Q a w := by
  refine wp_region_noPanic (wp_region_held (S := S) hm ?_)
  unfold okTwo at hok
  cases hl : endP ops perm (upto ops.size 0) with
  | none => rw [hl] at hok; cases hok
  | some l =>
  rw [hl] at hok
  simp only [Bool.and_eq_true] at hok
  obtain ⟨⟨hl1, hl2⟩, hbr⟩ := hok
  have hl1 := Nat.eq_of_beq_eq_true hl1
  have hl2 := Nat.eq_of_beq_eq_true hl2
  have h1 := wpAnyH_pre (P := P) (S := S) (Q := NoPanic Q) (m := p1.length) (last := l) hds hsel (fun _ _ _ _ _ h => h) (fun a w hS hab => ?_) perm (upto ops.size 0) a w.drew hl hS
    (h (NoPanic Q .normal) (NoPanic Q) S (fun _ _ _ h => h) (fun _ h => h) (fun _ h => h))
  · rw [hl2] at h1
    have h3 : upto ops.size 0 = Array.replicate ops.size false := by
      apply Array.ext
      · simp [upto]
      · intro j _ _; simp [upto]
    rw [h3] at h1
    exact h1
  · obtain ⟨ha, hb⟩ := hab
    cases p1 with
    | nil => cases p2 <;> cases hbr
    | cons x1 r1 =>
    cases p2 with
    | nil => cases hl1
    | cons x2 r2 =>
    obtain ⟨i, q1⟩ := x1
    obtain ⟨j, q2⟩ := x2
    cases q1
    case true => cases hbr
    cases q2
    case true => cases hbr
    cases hr : Region.ready .any ops l with
    | nil => rw [hr] at hbr; cases hbr
    | cons x t =>
    cases t with
    | nil => rw [hr] at hbr; cases hbr
    | cons y t =>
    cases t with
    | cons z t => rw [hr] at hbr; cases hbr
    | nil =>
    rw [hr] at hbr
    simp only [Bool.and_eq_true] at hbr
    obtain ⟨⟨⟨⟨⟨e1, e2⟩, b1⟩, b2⟩, k1⟩, k2⟩ := hbr
    have e1 := Nat.eq_of_beq_eq_true e1
    have e2 := Nat.eq_of_beq_eq_true e2
    subst e1 e2
    have step : ∀ (n : Nat) (r : List (Nat × Bool)), Nat.blt n ops.size = true → okP ops r (l.setIfInBounds n true) = true → r.length = r1.length → SeqP P ds (NoPanic Q .normal) (NoPanic Q) S (pick ops.toList ((n, false) :: r)) a w → wpOp P ops (NoPanic Q) n (fun a w => S w ∧ wpAnyH P .any ops (NoPanic Q) S r1.length (l.setIfInBounds n true) a w) a w := by
      intro n r hlt hok2 hlen h
      have hlt : n < ops.size := Nat.le_of_ble_eq_true hlt
      have hio : ops[n]? = some (nth ops.toList n) := by
        have := nth_get ops.toList n (by simpa using hlt)
        simpa using this
      simp only [pick, SeqP] at h
      unfold wpOp
      simp only [hio]
      rw [wantedD_eq hds]
      have fin := wpAnyH_P (P := P) (S := S) (Q := NoPanic Q) hds hsel (fun _ _ _ _ _ h => h)
      split
      · rename_i hw
        rw [if_pos hw] at h
        exact .inl (Oper.wp_mono (fun a w h => ⟨h.1, hlen ▸ fin _ _ _ _ hok2 h.1 h.2⟩) h)
      · rename_i hw
        rw [if_neg hw] at h
        exact ⟨h.1, hlen ▸ fin _ _ _ _ hok2 h.1 h.2⟩
    refine ⟨fun h0 => (by rw [hr] at h0; cases h0), fun n hn => ?_⟩
    rw [hr] at hn
    rcases List.mem_cons.1 hn with rfl | hn
    · exact step _ r1 b1 k1 rfl ha
    · obtain rfl : n = y := by simpa using hn
      exact step _ r2 b2 k2 (by simpa using hl1.symm) hb
end
end Go.Sq

set_option linter.unusedSimpArgs false
set_option linter.unusedVariables false
set_option maxRecDepth 100000
namespace Go.Sq
open Go

inductive Sch (α : Type) where
  | done : Sch α
  | quiet : α → Sch α → Sch α
  | one : α → Sch α → Sch α
  | two : α → α → Sch α → Sch α → Sch α
  | three : α → α → α → Sch α → Sch α → Sch α → Sch α

def Sch.size {α : Type} : Sch α → Nat
  | .done => 0
  | .quiet _ t => t.size + 1
  | .one _ t => t.size + 1
  | .two _ _ t _ => t.size + 1
  | .three _ _ _ t _ _ => t.size + 1

def Sch.fill (l : List Oper) : Sch Nat → Sch Oper
  | .done => .done
  | .quiet i t => .quiet (nth l i) (t.fill l)
  | .one i t => .one (nth l i) (t.fill l)
  | .two i j t u => .two (nth l i) (nth l j) (t.fill l) (u.fill l)
  | .three i j k t u v => .three (nth l i) (nth l j) (nth l k) (t.fill l) (u.fill l) (v.fill l)

def sameL : List Nat → List Nat → Bool
  | [], [] => true
  | a :: l, b :: m => Nat.beq a b && sameL l m
  | _, _ => false
theorem sameL_spec : ∀ {l m : List Nat}, sameL l m = true → l = m
  | [], [], _ => rfl
  | a :: l, b :: m, h => by
    simp only [sameL, Bool.and_eq_true] at h
    rw [Nat.eq_of_beq_eq_true h.1, sameL_spec h.2]
  | [], _ :: _, h => by cases h
  | _ :: _, [], h => by cases h

def okT (ops : Array Oper) : Sch Nat → Array Bool → Bool
  | .done, l => (Region.ready .any ops l).isEmpty
  | .quiet i t, l => quietOk ops i l && okT ops t (l.setIfInBounds i true)
  | .one i t, l => sameL (Region.ready .any ops l) [i] && Nat.blt i ops.size && okT ops t (l.setIfInBounds i true)
  | .two i j t u, l => sameL (Region.ready .any ops l) [i, j] && (Nat.blt i ops.size && okT ops t (l.setIfInBounds i true)) && (Nat.blt j ops.size && okT ops u (l.setIfInBounds j true)) && Nat.beq u.size t.size
  | .three i j k t u v, l => sameL (Region.ready .any ops l) [i, j, k] && (Nat.blt i ops.size && okT ops t (l.setIfInBounds i true)) && (Nat.blt j ops.size && okT ops u (l.setIfInBounds j true)) &&
      (Nat.blt k ops.size && okT ops v (l.setIfInBounds k true)) && Nat.beq u.size t.size && Nat.beq v.size t.size

section
variable {P : Program} {ops : Array Oper} {Q : Exit → Act → World → Prop} {S : World → Prop}

/-- An operation with an effect, and what follows. -/
def EffT (P : Program) (ds : List (Option Tmp)) (R : Exit → Act → World → Prop) (S : World → Prop) (o : Oper) (W : Act → World → Prop) (a : Act) (w : World) : Prop :=
  if wantedD ds o a.tmps then o.wp P a w (fun a' w' => S w' ∧ W a' w') R else S w ∧ W (a.put o.dst undef) w

/-- The walk by a tree. -/
def SeqT (P : Program) (ds : List (Option Tmp)) (K : Act → World → Prop) (R : Exit → Act → World → Prop) (S : World → Prop) : Sch Oper → Act → World → Prop
  | .done, a, w => K a w
  | .quiet o t, a, w => ∃ v, ((wantedD ds o a.tmps = true ∧ ∀ w, S w → Gives P (fun w' => w' = w) o v a.eval w) ∨ (wantedD ds o a.tmps = false ∧ v = undef)) ∧ SeqT P ds K R S t (a.put o.dst v) w
  | .one o t, a, w => EffT P ds R S o (SeqT P ds K R S t) a w
  | .two o o2 t u, a, w => EffT P ds R S o (SeqT P ds K R S t) a w ∧ EffT P ds R S o2 (SeqT P ds K R S u) a w
  | .three o o2 o3 t u v, a, w => EffT P ds R S o (SeqT P ds K R S t) a w ∧ EffT P ds R S o2 (SeqT P ds K R S u) a w ∧ EffT P ds R S o3 (SeqT P ds K R S v) a w

theorem eff_step {ds : List (Option Tmp)} (hds : ops.toList.map (·.dst) = ds) {n : Nat} (hlt : Nat.blt n ops.size = true) {m : Nat} {l : Array Bool} {W : Act → World → Prop}
    (ih : ∀ a w, S w → W a w → wpAnyH P .any ops Q S m l a w) {a : Act} {w : World} (h : EffT P ds Q S (nth ops.toList n) W a w) :
    wpOp P ops Q n (fun a w => S w ∧ wpAnyH P .any ops Q S m l a w) a w := by
  have hlt : n < ops.size := Nat.le_of_ble_eq_true hlt
  have hio : ops[n]? = some (nth ops.toList n) := by
    have := nth_get ops.toList n (by simpa using hlt)
    simpa using this
  unfold EffT at h
  unfold wpOp
  simp only [hio]
  rw [wantedD_eq hds]
  split
  · rename_i hw
    rw [if_pos hw] at h
    exact .inl (Oper.wp_mono (fun a w h => ⟨h.1, ih _ _ h.1 h.2⟩) h)
  · rename_i hw
    rw [if_neg hw] at h
    exact ⟨h.1, ih _ _ h.1 h.2⟩

theorem wpAnyH_T {ds : List (Option Tmp)} (hds : ops.toList.map (·.dst) = ds) (hsel : noSel ops.toList = true) (hQ : ∀ c a d v w, Q (.panic c) (a.put d v) w → Q (.panic c) a w) :
    ∀ (t : Sch Nat) (listed : Array Bool) (a : Act) (w : World), okT ops t listed = true → S w → SeqT P ds (Q .normal) Q S (t.fill ops.toList) a w → wpAnyH P .any ops Q S t.size listed a w := by
  have hns : Region.noSelect ops = true := by
    unfold Region.noSelect
    rw [← Array.all_toList, List.all_eq_true]
    exact noSel_spec hsel
  intro t
  induction t with
  | done =>
    intro listed a w hok hS h
    simp only [okT, List.isEmpty_iff] at hok
    exact ⟨hok, h⟩
  | quiet i t ih =>
    intro listed a w hok hS h
    simp only [okT, quietOk, Bool.and_eq_true, Bool.not_eq_true'] at hok
    obtain ⟨⟨⟨⟨hlt, hun⟩, hdep⟩, hoth⟩, hrest⟩ := hok
    have hlt : i < ops.size := Nat.le_of_ble_eq_true hlt
    have hio : ops[i]? = some (nth ops.toList i) := by
      have := nth_get ops.toList i (by simpa using hlt)
      simpa using this
    obtain ⟨v, hs, hrest2⟩ := h
    unfold Sch.size
    refine wpAnyH_firstQ hio (Region.noSelect_spec hns) (fun c a w => hQ c a _ v w) t.size listed a w ?_ ?_ (by unfold YieldsQ; rw [wantedD_eq hds]; exact hs) hS ?_
    · intro j oj hoj hji hunj hno
      have hl := othersOk_spec hoth j oj (by simpa using hoj) (by omega) (by simpa using hunj)
      rcases hl with h1 | h1
      · obtain ⟨e, he, hb⟩ := waitsFor_iff.1 h1
        exact absurd hb.2 (hno e (by simpa using he) hb.1)
      · exact h1
    · rw [mem_ready]
      exact ⟨hun, _, hio, fun e he hb => depsIn_spec hdep e (by simpa using he) hb⟩
    · exact ih _ _ _ hrest hS hrest2
  | one i t ih =>
    intro listed a w hok hS h
    simp only [okT, Bool.and_eq_true] at hok
    obtain ⟨⟨hr, hlt⟩, hrest⟩ := hok
    have hr := sameL_spec hr
    unfold Sch.size
    refine ⟨fun h0 => (by rw [hr] at h0; cases h0), fun n hn => ?_⟩
    rw [hr] at hn
    obtain rfl : n = i := by simpa using hn
    exact eff_step hds hlt (fun a w hS h => ih _ a w hrest hS h) h
  | two i j t u iht ihu =>
    intro listed a w hok hS h
    simp only [okT, Bool.and_eq_true] at hok
    obtain ⟨⟨⟨hr, hlt, hrest⟩, hlt2, hrest2⟩, he⟩ := hok
    have hr := sameL_spec hr
    have he := Nat.eq_of_beq_eq_true he
    unfold Sch.size
    refine ⟨fun h0 => (by rw [hr] at h0; cases h0), fun n hn => ?_⟩
    rw [hr] at hn
    rcases List.mem_cons.1 hn with rfl | hn
    · exact eff_step hds hlt (fun a w hS h => iht _ a w hrest hS h) h.1
    · obtain rfl : n = j := by simpa using hn
      exact eff_step hds hlt2 (fun a w hS h => he ▸ ihu _ a w hrest2 hS h) h.2
  | three i j k t u v iht ihu ihv =>
    intro listed a w hok hS h
    simp only [okT, Bool.and_eq_true] at hok
    obtain ⟨⟨⟨⟨⟨hr, hlt, hrest⟩, hlt2, hrest2⟩, hlt3, hrest3⟩, he⟩, he3⟩ := hok
    have hr := sameL_spec hr
    have he := Nat.eq_of_beq_eq_true he
    have he3 := Nat.eq_of_beq_eq_true he3
    unfold Sch.size
    refine ⟨fun h0 => (by rw [hr] at h0; cases h0), fun n hn => ?_⟩
    rw [hr] at hn
    rcases List.mem_cons.1 hn with rfl | hn
    · exact eff_step hds hlt (fun a w hS h => iht _ a w hrest hS h) h.1
    · rcases List.mem_cons.1 hn with rfl | hn
      · exact eff_step hds hlt2 (fun a w hS h => he ▸ ihu _ a w hrest2 hS h) h.2.1
      · obtain rfl : n = k := by simpa using hn
        exact eff_step hds hlt3 (fun a w hS h => he3 ▸ ihv _ a w hrest3 hS h) h.2.2

/-- THE RULE. -/
theorem wp_region_t {id : Nat} {a : Act} {w : World} (t : Sch Nat) (S : World → Prop) (hm : P.follows .mixedOrders = true) (hlen : t.size = ops.size)
    (hsel : noSel ops.toList = true) (hok : okT ops t (upto ops.size 0) = true) (hS : S w.drew) {ds : List (Option Tmp)} (hds : ops.toList.map (·.dst) = ds)
    (h : ∀ (K : Act → World → Prop) (R : Exit → Act → World → Prop) (T : World → Prop), (∀ a w, T w → Q .normal a w → K a w) → (∀ w, T w → S w) → (∀ w, S w → T w) → SeqT P ds K R T (t.fill ops.toList) a w.drew) :
    (Code.region id ops true).wp P Q a w := by
  refine wp_region_noPanic (wp_region_held (S := S) hm ?_)
  have h1 := wpAnyH_T (P := P) (S := S) (Q := NoPanic Q) hds hsel (fun _ _ _ _ _ h => h) t (upto ops.size 0) a w.drew hok hS (h _ _ S (fun _ _ _ h => h) (fun _ h => h) (fun _ h => h))
  rw [hlen] at h1
  have h3 : upto ops.size 0 = Array.replicate ops.size false := by
    apply Array.ext
    · simp [upto]
    · intro j _ _; simp [upto]
  rw [h3] at h1
  exact h1

variable {K : Act → World → Prop} {R : Exit → Act → World → Prop} {T : World → Prop} {ds : List (Option Tmp)} {o o2 o3 : Oper} {t u s : Sch Oper} {a : Act} {w : World} {v : Value}
theorem SeqT.pure (hw : wantedD ds o a.tmps = true) (h : ∀ w, T w → (execOp a.eval o).run P w = .ok (.value v) w)
    (hr : SeqT P ds K R T t (a.put o.dst v) w) : SeqT P ds K R T (.quiet o t) a w :=
  ⟨v, .inl ⟨hw, fun w hS => by unfold Gives; rw [h w hS]; exact ⟨rfl, rfl⟩⟩, hr⟩
theorem SeqT.call {f : FuncId} {args : Array Value} {c : Call} (_hop : o.op = .call c) (hw : wantedD ds o a.tmps = true)
    (h : ∀ w, T w → (execOp a.eval o).run P w = .ok (.enter f args) w) (hc : ∀ w, T w → Calls P f args w fun e w' => e = .returned v ∧ w' = w)
    (hr : SeqT P ds K R T t (a.put o.dst v) w) : SeqT P ds K R T (.quiet o t) a w :=
  ⟨v, .inl ⟨hw, fun w hS => by unfold Gives; rw [h w hS]; exact hc w hS⟩, hr⟩
theorem SeqT.skip (hw : wantedD ds o a.tmps = false) (hr : SeqT P ds K R T t (a.put o.dst undef) w) : SeqT P ds K R T (.quiet o t) a w :=
  ⟨undef, .inr ⟨hw, rfl⟩, hr⟩
theorem SeqT.aggbin {op : BinOp} {ty : TypeId} {x y : Operand} {xs ys : Array Value} (hop : o.op = .binOp op ty x y ty) (hm : P.eqGuardType P.depth ty = false) (hw : wantedD ds o a.tmps = true)
    (hx : a.eval x = .agg xs) (hy : a.eval y = .agg ys) (hrun : ∀ w, (binOp op ty (.agg xs) (.agg ys)).run P w = .ok v w) (hr : SeqT P ds K R T t (a.put o.dst v) w) : SeqT P ds K R T (.quiet o t) a w := by
  refine SeqT.pure hw (fun w _ => ?_) hr
  simp only [execOp, hop, hx, hy, Sem.run_bind, run_eqGuard_agg w op ty x y xs ys hm, Result.andThen_ok, hrun]
  rfl
theorem SeqT.eff1 (hw : wantedD ds o a.tmps = true) (h : ∀ K' : Act → World → Prop, (∀ a' w', T w' → SeqT P ds K R T t a' w' → K' a' w') → o.wp P a w K' R) : SeqT P ds K R T (.one o t) a w := by
  unfold SeqT EffT
  rw [if_pos hw]
  exact h _ fun a' w' h1 h2 => ⟨h1, h2⟩
theorem EffT.go {W : Act → World → Prop} (hw : wantedD ds o a.tmps = true) (h : ∀ K' : Act → World → Prop, (∀ a' w', T w' → W a' w' → K' a' w') → o.wp P a w K' R) : EffT P ds R T o W a w := by
  unfold EffT
  rw [if_pos hw]
  exact h _ fun a' w' h1 h2 => ⟨h1, h2⟩
theorem EffT.skip {W : Act → World → Prop} (hw : wantedD ds o a.tmps = false) (hS : T w) (hr : W (a.put o.dst undef) w) : EffT P ds R T o W a w := by
  unfold EffT
  rw [if_neg (by rw [hw]; simp)]
  exact ⟨hS, hr⟩
/-- The operation is the one whose temporary is n. -/
theorem EffT.is {W : Act → World → Prop} (n : Option Tmp) (_hd : o.dst = n) (h : EffT P ds R T o W a w) : EffT P ds R T o W a w := h
theorem SeqT.one (h : EffT P ds R T o (SeqT P ds K R T t) a w) : SeqT P ds K R T (.one o t) a w := h
theorem SeqT.two (h : EffT P ds R T o (SeqT P ds K R T t) a w) (h2 : EffT P ds R T o2 (SeqT P ds K R T u) a w) : SeqT P ds K R T (.two o o2 t u) a w := ⟨h, h2⟩
theorem SeqT.three (h : EffT P ds R T o (SeqT P ds K R T t) a w) (h2 : EffT P ds R T o2 (SeqT P ds K R T u) a w) (h3 : EffT P ds R T o3 (SeqT P ds K R T s) a w) : SeqT P ds K R T (.three o o2 o3 t u s) a w := ⟨h, h2, h3⟩
theorem SeqT.done (h : K a w) : SeqT P ds K R T .done a w := h
end
end Go.Sq

set_option linter.unusedSimpArgs false
set_option linter.unusedVariables false
set_option maxRecDepth 100000
namespace Go.Proofs.Ytdphfhenjndkkaa
open Go Go.RowKit Go.Sq Go.Wd

theorem step_eq {e s n j : Int} (h : nextOk e s n) (h0 : 0 ≤ j) (hj : j < n) (he : (e + j) % n = s) : stepE e s n = e + 1 + j := by
  obtain ⟨hs, h1, h2, h3, h4⟩ := h
  unfold stepE
  rcases sites_cases hs with rfl | rfl | rfl | rfl | rfl | rfl <;> omega
theorem step_hit {e s n j : Int} (h : nextOk e s n) (h0 : 0 ≤ j) (hj : j < n) (he : ofE (e + 1 + j) n = s) : nextE e s n = (e + 1 + j, 0) := by
  have h' := h
  obtain ⟨hs, h1, h2, h3, h4⟩ := h'
  unfold ofE at he
  split at he
  · rename_i hc
    have e1 : e + 1 + j - 1 = e + j := by omega
    rw [e1] at he
    have := step_eq h h0 hj he
    unfold nextE
    rw [if_pos h, this, if_pos hc.2.1]
  · omega
theorem step_in {e s n : Int} (h : nextOk e s n) : ∃ j, 0 ≤ j ∧ j < n ∧ (e + j) % n = s ∧ stepE e s n = e + 1 + j := by
  have h' := h
  obtain ⟨hs, h1, h2, h3, h4⟩ := h'
  refine ⟨(s - e % n + n) % n, ?_, ?_, ?_, rfl⟩ <;> (rcases sites_cases hs with rfl | rfl | rfl | rfl | rfl | rfl <;> omega)
theorem step_none {e s n : Int} (h : nextOk e s n) (hn : ∀ j : Int, 0 ≤ j → j < n → ofE (e + 1 + j) n ≠ s) : nextE e s n = (0, 3) := by
  unfold nextE
  rw [if_pos h]
  by_cases hm : stepE e s n ≤ 1048576
  · obtain ⟨j, h0, hj, he, hst⟩ := step_in h
    refine absurd ?_ (hn j h0 hj)
    obtain ⟨hs, h1, h2, h3, h4⟩ := h
    rw [hst] at hm
    unfold ofE
    rw [if_pos ⟨by omega, hm, hs⟩]
    have e1 : e + 1 + j - 1 = e + j := by omega
    rw [e1]
    exact he
  · rw [if_neg hm]
theorem next_bad {e s n : Int} (h : ¬ nextOk e s n) : nextE e s n = (0, 2) := if_neg h

theorem ret_two {a b a' b' : Int} (h1 : a = a') (h2 : b = b') : Ending.returned (.tuple #[.int .i64 a, .int .i64 b]) = .returned (.tuple #[.int .i64 a', .int .i64 b']) := by rw [h1, h2]

theorem next_no (e s n : Int) (w : World) (h : ¬ nextOk e s n) : Calls Try.prog 54 #[.int .i64 e, .int .i64 s, .int .i64 n] w fun r w' => r = .returned (.tuple #[.int .i64 (nextE e s n).1, .int .i64 (nextE e s n).2]) ∧ w' = w := by
  have hN := Lib.hid (next_bad h)
  cases hs : sitesE n with
  | false =>
    have hc := sites_any n w
    rw [hs] at hc
    have HC := Lib.hid hc
    clear hc hs h
    go_enter Try.func54, Try.ntmps54
    go_wp2_with fail
    refine HC.out.mono ?_
    rintro e w1 ⟨rfl, rfl⟩
    go_wp2_with fail
    go_ret2
    rw [hN.out]
    exact ⟨rfl, rfl⟩
  | true =>
    have hc := sites_any n w
    rw [hs] at hc
    have HC := Lib.hid hc
    clear hc
    have hcc : s < 0 ∨ (¬ s < 0 ∧ n ≤ s) ∨ (¬ s < 0 ∧ ¬ n ≤ s ∧ e < 0) ∨ (¬ s < 0 ∧ ¬ n ≤ s ∧ ¬ e < 0 ∧ (1048576 : Int) < e) := by
      have : ¬ (0 ≤ s ∧ s < n ∧ 0 ≤ e ∧ e ≤ 1048576) := fun hh => h ⟨hs, hh.1, hh.2.1, hh.2.2.1, hh.2.2.2⟩
      omega
    clear h hs
    rcases hcc with c1 | ⟨c1, c2⟩ | ⟨c1, c2, c3⟩ | ⟨c1, c2, c3, c4⟩
    all_goals
      go_enter Try.func54, Try.ntmps54
      go_wp2_with fail
      refine HC.out.mono ?_
      rintro e w1 ⟨rfl, rfl⟩
      go_wp2_with fail
      go_ret2
      rw [hN.out]
      exact ⟨rfl, rfl⟩

set_option maxHeartbeats 2000000 in
theorem next_any (e s n : Int) (w : World) : Calls Try.prog 54 #[.int .i64 e, .int .i64 s, .int .i64 n] w fun r w' => r = .returned (.tuple #[.int .i64 (nextE e s n).1, .int .i64 (nextE e s n).2]) ∧ w' = w := by
  by_cases h : nextOk e s n
  case neg => exact next_no e s n w h
  have h' := h
  obtain ⟨hs, h1, h2, h3, h4⟩ := h'
  have hc := sites_any n w
  rw [hs] at hc
  have HC := Lib.hid hc
  have g1 : ¬ s < 0 := by omega
  have g2 : ¬ n ≤ s := by omega
  have g3 : ¬ e < 0 := by omega
  have g4 : ¬ (1048576 : Int) < e := by omega
  have HP := Lib.hid h
  clear hc h
  have hx : ∃ x, stepE e s n = x ∧ e + 1 ≤ x ∧ x ≤ e + 7 := by
    obtain ⟨j, a, b, _, d⟩ := step_in HP.out
    have : n ≤ 7 := by rcases sites_cases hs with rfl | rfl | rfl | rfl | rfl | rfl <;> omega
    exact ⟨_, d, by omega, by omega⟩
  obtain ⟨x, hx, hxl, hxu⟩ := hx
  by_cases hm : x ≤ 1048576
  case' pos =>
    have hN := Lib.hid (show nextE e s n = (x, 0) from by unfold nextE; rw [if_pos HP.out, hx, if_pos hm])
    have hmb : ¬ (1048576 : Int) < x := by omega
  case' neg =>
    have hN := Lib.hid (show nextE e s n = (0, 3) from by unfold nextE; rw [if_pos HP.out, hx, if_neg hm])
    have hmb : (1048576 : Int) < x := by omega
  all_goals
    have HX := Lib.hid hx
    clear hx hm HP
    rcases sites_cases hs with rfl | rfl | rfl | rfl | rfl | rfl
  all_goals
    clear hs
    go_enter Try.func54, Try.ntmps54
    go_wp2_with fail
    refine HC.out.mono ?_
    rintro e w1 ⟨rfl, rfl⟩
    go_wp2_with fail
    all_goals
      have hX := HX.out
      unfold stepE at hX
      first
        | (exfalso; omega)
        | (go_ret2
           rw [hN.out]
           exact ⟨ret_two (by first | rfl | omega) (by first | rfl | omega), rfl⟩)

end Go.Proofs.Ytdphfhenjndkkaa

set_option linter.unusedSimpArgs false
set_option linter.unusedVariables false
set_option maxRecDepth 100000
namespace Go.Proofs.Ytdphfhenjndkkaa
open Go Go.RowKit Go.Sq Go.Wd Go.Arch

def slw (s : SlcE) : Value := .slice s.1 s.2.1 s.2.2
def no0 : SlcE := (none, 0, 0)
def regOf (S : Slots) (i : Nat) : RegS := (S i).getD reg0
abbrev Sls := Nat → SlcE
def upS (sl : Sls) (k : Nat) (s : SlcE) : Sls := fun i => if i = k then s else sl i
theorem upS_at (sl : Sls) (k : Nat) (s : SlcE) : upS sl k s k = s := if_pos rfl
theorem upS_far (sl : Sls) {k i : Nat} (s : SlcE) (h : i ≠ k) : upS sl k s i = sl i := if_neg h
theorem regOf_at (S : Slots) (k : Nat) (r : RegS) : regOf (put7 S k r) k = r := by unfold regOf; rw [put7_at]; rfl
theorem regOf_far (S : Slots) {k i : Nat} (r : RegS) (h : i ≠ k) : regOf (put7 S k r) i = regOf S i := by unfold regOf; rw [put7_far S r h]
/-- The numbers ahead. -/
def begv (b : BegS) : List Value := [.int .i64 b.stream, .int .i64 b.epoch, .int .i64 b.site, .int .i64 b.n, .int .i64 b.stamp]
def hadv (S : Slots) : List Value := [.bool (S 0).isSome, .bool (S 1).isSome, .bool (S 2).isSome, .bool (S 3).isSome, .bool (S 4).isSome, .bool (S 5).isSome, .bool (S 6).isSome]
def slotv (S : Slots) (sl : Sls) (i : Nat) : List Value := rgv (regOf S i) (sl i)
def regsv (S : Slots) (sl : Sls) : List Value := slotv S sl 0 ++ (slotv S sl 1 ++ (slotv S sl 2 ++ (slotv S sl 3 ++ (slotv S sl 4 ++ (slotv S sl 5 ++ slotv S sl 6)))))
def balv (b : BegS) (S : Slots) (sl : Sls) : List Value := begv b ++ (hadv S ++ regsv S sl)
theorem cases7 {k : Nat} (h : k < 7) : k = 0 ∨ k = 1 ∨ k = 2 ∨ k = 3 ∨ k = 4 ∨ k = 5 ∨ k = 6 := by omega
theorem balv_len (b : BegS) (S : Slots) (sl : Sls) : (balv b S sl).length = 40 := rfl
theorem balv_had (b : BegS) (S : Slots) (sl : Sls) {k : Nat} (h : k < 7) : (balv b S sl)[5 + k]? = some (.bool (S k).isSome) := by
  obtain rfl | rfl | rfl | rfl | rfl | rfl | rfl := cases7 h
  all_goals rfl
theorem balv_hads (b : BegS) (S : Slots) (sl : Sls) : ∀ j, j < (hadv S).length → (balv b S sl)[5 + j]? = (hadv S)[j]? := fun j h => by
  obtain rfl | rfl | rfl | rfl | rfl | rfl | rfl := cases7 h
  all_goals rfl
theorem balv_slot (b : BegS) (S : Slots) (sl : Sls) {k : Nat} (h : k < 7) : ∀ j, j < (slotv S sl k).length → (balv b S sl)[12 + k * 4 + j]? = (slotv S sl k)[j]? := fun j hj => by
  have hj : j < 4 := hj
  obtain rfl | rfl | rfl | rfl | rfl | rfl | rfl := cases7 h
  all_goals
    obtain rfl | rfl | rfl | rfl : j = 0 ∨ j = 1 ∨ j = 2 ∨ j = 3 := by omega
    all_goals rfl
theorem balv_put (b : BegS) (S : Slots) (sl : Sls) {k : Nat} (h : k < 7) (r : RegS) (s : SlcE) : setAll ((balv b S sl).set (5 + k) (.bool true)) (12 + k * 4) (rgv r s) = balv b (put7 S k r) (upS sl k s) := by
  obtain rfl | rfl | rfl | rfl | rfl | rfl | rfl := cases7 h
  all_goals rfl
/-- A ballot at block g; what it has itself lies from B on. -/
def BalAt (w : World) (B g : Nat) (b : BegS) (S : Slots) : Prop := ∃ sl : Sls, Blk w g 133 (balv b S sl) ∧ ∀ i, i < 7 → Row w B (slw (sl i)) (regOf S i).log
section
variable {w w' : World} {B g : Nat} {b : BegS} {S : Slots}
theorem BalAt.lt (h : BalAt w B g b S) : g < w.heap.size := by
  obtain ⟨sl, hb, _⟩ := h
  exact hb.lt
theorem BalAt.kept {r1 r2 : Option Nat} (h : BalAt w B g b S) (hk : Kept w w' r1 r2) (h1 : some g ≠ r1) (h2 : some g ≠ r2)
    (n1 : ∀ q, r1 = some q → ∀ cs, w.heap[q]? ≠ some (.cells cs 64 (0, 0))) (n2 : ∀ q, r2 = some q → ∀ cs, w.heap[q]? ≠ some (.cells cs 64 (0, 0))) : BalAt w' B g b S := by
  obtain ⟨sl, hb, hr⟩ := h
  exact ⟨sl, hk.blk hb h1 h2, fun i hi => hk.own (hr i hi) n1 n2⟩
theorem BalAt.keep (h : BalAt w B g b S) (hb : Below w.heap.size w w') : BalAt w' B g b S :=
  h.kept (Kept.ofBelow hb none none) (by simp) (by simp) (fun q e => by cases e) (fun q e => by cases e)
theorem BalAt.base {B' : Nat} (h : BalAt w B g b S) (hB : B' ≤ B) : BalAt w B' g b S := by
  obtain ⟨sl, hb, hr⟩ := h
  exact ⟨sl, hb, fun i hi => (hr i hi).base hB⟩
end
theorem bal_info : (Try.prog.info? 133).map (·.size) = some 40 := by kernel_rfl
theorem had7_info : (Try.prog.info? 130).map (·.size) = some 7 := by kernel_rfl

theorem none_nil (w : World) : Calls Try.prog 80 #[.pointer none] w fun e w' => e = .returned (.bool true) ∧ w' = w := by
  go_enter Try.func80, Try.ntmps80
  go_wp2_with fail
  go_ret
  exact ⟨rfl, rfl⟩
theorem none_any (g : Nat) (n : Int) (w : World) (h : w.cell? ⟨g, 3, none⟩ = some (.int .i64 n)) :
    Calls Try.prog 80 #[.pointer (some ⟨g, 0, none⟩)] w fun e w' => e = .returned (.bool (n == 0)) ∧ w' = w := by
  go_enter Try.func80, Try.ntmps80
  go_wp2_with fail
  go_ret
  exact ⟨rfl, rfl⟩
end Go.Proofs.Ytdphfhenjndkkaa

set_option linter.unusedSimpArgs false
set_option linter.unusedVariables false
set_option maxRecDepth 100000
namespace Go.Gr
open Go Go.RowKit Go.Wd

/-- How an element lies: its type, the slice's type, its cells. -/
structure Enc (P : Program) (α : Type) where
  elem : TypeId
  slice : TypeId
  size : Nat
  bytes : Nat
  zero : Value
  enc : α → List Value
  len : ∀ a, (enc a).length = size
  one : ∀ a, ∀ v ∈ enc a, v.oneCell' = true
  pos : 0 < size
  und : P.underlying slice = some (.slice elem)
  info : (P.info? elem).map (fun i => (i.zero, i.size, i.bytes)) = some (some zero, size, bytes)
  zs : zero.cells.size = size
  few : bytes ≤ 1000

section
variable {P : Program} {α : Type} (R : Enc P α)
def Enc.flat (l : List α) : List Value := l.flatMap R.enc
theorem Enc.flat_cons (a : α) (l : List α) : R.flat (a :: l) = R.enc a ++ R.flat l := rfl
theorem Enc.flat_nil : R.flat [] = [] := rfl
theorem Enc.flat_len (l : List α) : (R.flat l).length = l.length * R.size := by
  induction l with
  | nil => simp [Enc.flat]
  | cons a l ih => rw [R.flat_cons, List.length_append, ih, R.len, List.length_cons, Nat.add_mul, Nat.one_mul]; omega
theorem Enc.flat_app (l m : List α) : R.flat (l ++ m) = R.flat l ++ R.flat m := by simp [Enc.flat]
theorem Enc.flat_one (a : α) : R.flat [a] = R.enc a := by simp [Enc.flat]
theorem Enc.flat_get : ∀ (l : List α) (i : Nat) (e : α) (k : Nat), l[i]? = some e → k < R.size → (R.flat l)[i * R.size + k]? = (R.enc e)[k]?
  | [], i, e, k, h, _ => by simp at h
  | a :: l, 0, e, k, h, hk => by
    simp at h
    subst h
    rw [R.flat_cons, Nat.zero_mul, Nat.zero_add, List.getElem?_append_left (by rw [R.len]; exact hk)]
  | a :: l, i + 1, e, k, h, hk => by
    have ih := Enc.flat_get l i e k (by simpa using h) hk
    rw [R.flat_cons, List.getElem?_append_right (by rw [R.len, Nat.add_mul]; omega), ← ih, R.len]
    congr 1
    rw [Nat.add_mul]
    omega
theorem Enc.flat_1 (l : List α) : ∀ u ∈ R.flat l, u.oneCell' = true := by
  intro u hu
  simp only [Enc.flat, List.mem_flatMap] at hu
  obtain ⟨e, _, hu⟩ := hu
  exact R.one e u hu
theorem add_at (b o j : Nat) : (⟨b, o, none⟩ : Addr).add j = ⟨b, o + j, none⟩ := by
  unfold Addr.add
  by_cases h : j = 0 <;> simp [h]

/-- The cells of an element lie at this place. -/
def At (w : World) (b o : Nat) (e : α) : Prop := ∀ k, k < R.size → w.cell? ⟨b, o + k, none⟩ = (R.enc e)[k]?
/-- The slice at A holds these elements, below block B. -/
def Sl (w : World) (B : Nat) (A : Option Addr) (l : List α) : Prop :=
  0 < l.length → ∃ b off, A = some ⟨b, off, none⟩ ∧ b < B ∧ ∀ i e, l[i]? = some e → At R w b (off + i * R.size) e
/-- v is a row of these elements, in memory from B on. -/
abbrev Row (w : World) (B : Nat) (v : Value) (l : List α) : Prop := w.ownsRow B R.elem R.size v l.length (R.flat l)
end

section
variable {P : Program} {α : Type} {R : Enc P α} {w w' : World} {B B' : Nat} {A : Option Addr} {l m : List α} {v : Value}
theorem At.below {b o : Nat} {e : α} (h : At R w b o e) (hb : Below B w w') (hB : b < B) : At R w' b o e := fun k hk => (hb.cell (p := ⟨b, _, none⟩) hB).trans (h k hk)
theorem Sl.below (h : Sl R w B A l) (hb : Below B w w') : Sl R w' B A l := fun hl => by
  obtain ⟨b, off, ha, hB, hc⟩ := h hl
  exact ⟨b, off, ha, hB, fun i e he => (hc i e he).below hb hB⟩
theorem Sl.more (h : Sl R w B A l) (hB : B ≤ B') : Sl R w B' A l := fun hl => by
  obtain ⟨b, off, ha, hb, hc⟩ := h hl
  exact ⟨b, off, ha, by omega, hc⟩
theorem Sl.keep (h : Sl R w w.heap.size A l) (hb : Below w.heap.size w w') : Sl R w' w'.heap.size A l := (h.below hb).more hb.size
theorem Sl.nil : Sl R w B A [] := fun h => absurd h (by simp)
theorem Sl.at_ (h : Sl R w B A l) {k : Nat} (hk : k < l.length) : ∃ b off e, A = some ⟨b, off, none⟩ ∧ Hid (l[k]? = some e) ∧ b < B ∧ ∀ w', Below B w w' → At R w' b (off + k * R.size) e := by
  obtain ⟨b, off, ha, hb, hc⟩ := h (by omega)
  exact ⟨b, off, _, ha, Lib.hid (List.getElem?_eq_getElem hk), hb, fun w' hb' => (hc k _ (List.getElem?_eq_getElem hk)).below hb' hb⟩
theorem Sl.take (h : Sl R w B A l) (n : Nat) : Sl R w B A (l.take n) := fun hl => by
  obtain ⟨b, off, ha, hb, hc⟩ := h (by simp at hl; omega)
  refine ⟨b, off, ha, hb, fun i e he => hc i e ?_⟩
  rw [List.getElem?_take] at he
  split at he
  · exact he
  · cases he
theorem Sl.drop {b off : Nat} (h : Sl R w B (some ⟨b, off, none⟩) l) (n : Nat) : Sl R w B (some ⟨b, off + n * R.size, none⟩) (l.drop n) := fun hl => by
  obtain ⟨b', off', ha, hb, hc⟩ := h (by simp at hl; omega)
  cases ha
  refine ⟨b, _, rfl, hb, fun i e he => ?_⟩
  rw [List.getElem?_drop] at he
  have := hc (n + i) e he
  rw [Nat.add_mul, ← Nat.add_assoc] at this
  exact this
/-- Where the cells of such a slice lie. -/
theorem Sl.cells (h : Sl R w B A l) (h0 : 0 < l.length) : ∃ ad, A = some ad ∧ ∀ j u, (R.flat l)[j]? = some u → w.cell? (ad.add j) = some u := by
  obtain ⟨b, off, ha, hb, hc⟩ := h h0
  refine ⟨_, ha, fun j u hu => ?_⟩
  have hj : j < l.length * R.size := by
    have := (List.getElem?_eq_some_iff.1 hu).1
    rw [R.flat_len] at this
    exact this
  have hp := R.pos
  have hd : j / R.size < l.length := Nat.div_lt_of_lt_mul (by rw [Nat.mul_comm]; exact hj)
  have hm : j % R.size < R.size := Nat.mod_lt _ hp
  have hjj : j / R.size * R.size + j % R.size = j := by rw [Nat.mul_comm]; exact Nat.div_add_mod j R.size
  obtain ⟨e, he⟩ : ∃ e, l[j / R.size]? = some e := ⟨_, List.getElem?_eq_getElem hd⟩
  have hf := R.flat_get l (j / R.size) e (j % R.size) he hm
  rw [hjj, hu] at hf
  rw [add_at, hf]
  have := hc _ e he (j % R.size) hm
  rw [Nat.add_assoc, hjj] at this
  exact this
theorem Row.nil (w : World) (B : Nat) : Row R w B (.slice none 0 0) [] := by
  unfold Row
  exact World.ownsRow_nil _ _ _ _
theorem Row.keep (h : Row R w B v l) (hb : Below w.heap.size w w') : Row R w' B v l := h.kept (only_of_below hb none) (by
  cases hv : v.ownBlock with
  | none => exact .inl rfl
  | some g => exact .inr (fun e => by cases e))
theorem Row.far {k : Nat} (h : Row R w B v l) (hg : w.grownBy w' (some k)) (hk : k < B) : Row R w' B v l := h.kept hg (by
  cases hv : v.ownBlock with
  | none => exact .inl rfl
  | some g => exact .inr (fun e => by have := (h.lt g hv).1; cases e; omega))
theorem Row.beside {row : Option Nat} (h : Row R w B v l) (hg : w.grownBy w' row) (hk : ∀ g, v.ownBlock = some g → some g ≠ row) : Row R w' B v l := h.kept hg (by
  cases hv : v.ownBlock with
  | none => exact .inl rfl
  | some g => exact .inr (hk g hv))
theorem Row.base (h : Row R w B v l) (hB : B' ≤ B) : Row R w B' v l := by
  refine ⟨h.1, ?_⟩
  rcases h.2 with h' | ⟨g, cap, cur, h1, h2, r⟩
  · exact .inl h'
  · exact .inr ⟨g, cap, cur, h1, Nat.le_trans hB h2, r⟩
/-- The cells of an element of a row. -/
theorem Row.cell {g n c : Nat} (h : Row R w B (.slice (some ⟨g, 0, none⟩) n c) l) {i : Nat} {e : α} (he : l[i]? = some e) : At R w g (i * R.size) e := fun k hk => by
  have hn : n = l.length := by
    rcases h.2 with ⟨h', _⟩ | ⟨g', cap, cur, h1, _⟩
    · cases h'
    · cases h1; rfl
  subst hn
  have hi := (List.getElem?_eq_some_iff.1 he).1
  have hlt : i * R.size + k < l.length * R.size := by
    have := Nat.mul_le_mul_right R.size (Nat.succ_le_of_lt hi)
    rw [Nat.succ_mul] at this
    omega
  rw [h.cellAt (i * R.size + k) hlt]
  exact R.flat_get l i e k he hk
theorem Row.form (h : Row R w B v l) : ∃ A c, v = .slice A l.length c ∧ l.length ≤ c ∧ c ≤ 9223372036854775807 ∧ Sl R w w.heap.size A l := by
  rcases id h.2 with ⟨rfl, hl⟩ | ⟨g, cap, cur, rfl, h1, h2, h3, h4, _⟩
  · have he : l = [] := List.eq_nil_of_length_eq_zero hl
    subst he
    exact ⟨none, 0, rfl, Nat.le_refl _, by omega, Sl.nil⟩
  · refine ⟨_, cap, rfl, h3, by simp only [maxLen] at h4; omega, fun hl => ⟨g, 0, rfl, (h.lt g rfl).2, fun i e hi => ?_⟩⟩
    rw [Nat.zero_add]
    exact Row.cell h hi
theorem Row.where_ (h : Row R w B v l) : v = .slice none 0 0 ∧ l = [] ∨ ∃ g c, v = .slice (some ⟨g, 0, none⟩) l.length c ∧ B ≤ g ∧ g < w.heap.size ∧ l.length ≤ c ∧ c ≤ 9223372036854775807 := by
  rcases id h.2 with ⟨rfl, hl⟩ | ⟨g, cap, cur, rfl, h1, h2, h3, h4, _⟩
  · exact .inl ⟨rfl, List.eq_nil_of_length_eq_zero hl⟩
  · exact .inr ⟨g, cap, rfl, h1, (h.lt g rfl).2, h3, by simp only [maxLen] at h4; omega⟩
/-- One more element. -/
theorem Row.snoc (h : Row R w B v l) (e : α) (hn : l.length < 100000) (hB : B ≤ w.heap.size) {H : Nat} (hH : w.heap.size = H) (ty : TypeId) :
    ∃ v' w', (Builtin.append_ #[R.slice, R.slice] ty #[v, .slice (some ⟨H, 0, none⟩) 1 1]).run P (w.alloc (.cells (R.enc e).toArray R.elem)) = .ok v' w' ∧ Row R w' B v' (l ++ [e]) ∧ w.grownBy w' v.ownBlock ∧
      (v'.ownBlock = v.ownBlock ∨ v'.ownBlock = some (H + 1)) := by
  obtain ⟨v', w', hr, ho, hg, hb⟩ := append_one (P := P) ty R.und R.info R.zs R.pos h (R.enc e) (R.len e) (R.one e) (by simp only [maxLen]; omega) (by have := R.few; have := Nat.mul_le_mul (show l.length + 1 ≤ 100000 by omega) this; omega) hB hH
  refine ⟨v', w', hr, ?_, hg, hb⟩
  unfold Row
  rw [List.length_append, R.flat_app, R.flat_one]
  exact ho
/-- Many more. -/
theorem Row.app (h : Row R w B v l) (A : Option Addr) (c : Nat) (ha : Sl R w w.heap.size A m) (hl : l.length + m.length ≤ 100000) (hB : B ≤ w.heap.size) (ty : TypeId) :
    ∃ v' w', (Builtin.append_ #[R.slice, R.slice] ty #[v, .slice A m.length c]).run P w = .ok v' w' ∧ Row R w' B v' (l ++ m) ∧ w.grownBy w' v.ownBlock ∧ (v'.ownBlock = v.ownBlock ∨ v'.ownBlock = some w.heap.size) := by
  obtain ⟨v1, w1, h1, h2, h3, h4⟩ := append_all (P := P) ty R.und R.info R.zs R.pos h A m.length c (R.flat m) (R.flat_len m) ha.cells (R.flat_1 m) (by simp only [maxLen]; omega) (by have := R.few; have := Nat.mul_le_mul hl this; omega) hB
  refine ⟨v1, w1, h1, ?_, h3, h4⟩
  unfold Row
  rw [List.length_append, R.flat_app]
  exact h2
/-- A row made of one literal. -/
theorem Row.empty (w : World) : Row R (w.alloc (.cells #[] R.elem)) w.heap.size (.slice (some ⟨w.heap.size, 0, none⟩) 0 0) [] := by
  have h := World.ownsRow_made (base := w.heap.size) (e := R.elem) (size := R.size) w #[] 0 (Nat.le_refl _) (by simp [maxLen]) (by simp)
  exact h
/-- The copy of a list: append([]T{}, l...). -/
theorem copy_run (A : Option Addr) (c : Nat) (ha : Sl R w w.heap.size A l) (hl : l.length ≤ 100000) (ty : TypeId) :
    ∃ v' w', (Builtin.append_ #[R.slice, R.slice] ty #[.slice (some ⟨w.heap.size, 0, none⟩) 0 0, .slice A l.length c]).run P (w.alloc (.cells #[] R.elem)) = .ok v' w' ∧ Row R w' w.heap.size v' l ∧ Below w.heap.size w w' := by
  have h0 : Below w.heap.size w (w.alloc (.cells #[] R.elem)) := (Below.refl _ _).alloc (Nat.le_refl _) _
  obtain ⟨v1, w1, h1, h2, h3, _⟩ := Row.app (Row.empty (R := R) w) A c ((ha.below h0).more h0.size) (by simpa using hl) (by simp) ty
  exact ⟨v1, w1, h1, h2, below_own h0 h3 (Row.empty (R := R) w) h0.size⟩
/-- A literal slice. -/
theorem Sl.lit (w : World) (l : List α) : Sl R (w.alloc (.cells (R.flat l).toArray R.elem)) (w.heap.size + 1) (some ⟨w.heap.size, 0, none⟩) l := fun _ => by
  have hb := Blk.new w R.elem (R.flat l)
  refine ⟨w.heap.size, 0, rfl, Nat.lt_succ_self _, fun i e he k hk => ?_⟩
  rw [Nat.zero_add, hb.cell]
  exact R.flat_get l i e k he hk
theorem below_row {w1 : World} (h : Below B w w1) (hg : w1.grownBy w' v.ownBlock) (ho : Row R w1 B v l) (hw : B ≤ w1.heap.size) : Below B w w' := below_own h hg ho hw
end
end Go.Gr

set_option linter.unusedSimpArgs false
set_option linter.unusedVariables false
set_option maxRecDepth 100000
namespace Go.Gr
open Go Go.RowKit Go.Wd

theorem setAll_get : ∀ (vs : List Value) (xs : List Value) (o k : Nat), o + vs.length ≤ xs.length → (setAll xs o vs)[k]? = if o ≤ k ∧ k < o + vs.length then vs[k - o]? else xs[k]?
  | [], xs, o, k, _ => by
    rw [if_neg (by simp)]
    rfl
  | v :: r, xs, o, k, h => by
    have ih := setAll_get r (xs.set o v) (o + 1) k (by simp at h ⊢; omega)
    show (setAll (xs.set o v) (o + 1) r)[k]? = _
    rw [ih]
    simp only [List.length_cons] at h ⊢
    by_cases h1 : o + 1 ≤ k ∧ k < o + 1 + r.length
    · rw [if_pos h1, if_pos (by omega), show k - o = (k - (o + 1)) + 1 by omega]
      rfl
    · rw [if_neg h1]
      by_cases h2 : k = o
      · subst h2
        rw [if_pos (by omega), List.getElem?_set_self (by omega), Nat.sub_self]
        rfl
      · rw [if_neg (by omega), List.getElem?_set_ne (by omega)]
theorem setAll_len : ∀ (vs : List Value) (xs : List Value) (o : Nat), (setAll xs o vs).length = xs.length
  | [], _, _ => rfl
  | v :: r, xs, o => by
    show (setAll (xs.set o v) (o + 1) r).length = _
    rw [setAll_len r]
    simp
theorem own_setCells {base : Nat} {e : TypeId} {size g n cap : Nat} : ∀ (vs : List Value) (o : Nat) (xs : List Value) (w : World), w.ownsRow base e size (.slice (some ⟨g, 0, none⟩) n cap) n xs →
    (w.setCells g o vs).ownsRow base e size (.slice (some ⟨g, 0, none⟩) n cap) n (setAll xs o vs) ∧ w.grownBy (w.setCells g o vs) (some g)
  | [], _, _, w, h => ⟨h, World.grownBy.refl w _⟩
  | v :: r, o, xs, w, h => by
    have h1 := h.stored o v
    have h2 := own_setCells r (o + 1) (xs.set o v) (w.setCell ⟨g, o, none⟩ v) h1.1
    exact ⟨h2.1, only_trans h1.2 h2.2⟩
section
variable {P : Program} {α : Type} {R : Enc P α} {w w' : World} {B : Nat} {l : List α}
theorem Row.eq_len {g n c : Nat} (h : Row R w B (.slice (some ⟨g, 0, none⟩) n c) l) : n = l.length := by
  rcases h.2 with ⟨h', _⟩ | ⟨g', cap, cur, h1, _⟩
  · cases h'
  · cases h1; rfl
theorem flat_set (R : Enc P α) (l : List α) {i : Nat} (hi : i < l.length) (e : α) : setAll (R.flat l) (i * R.size) (R.enc e) = R.flat (l.set i e) := by
  have hl := R.flat_len l
  have hb : i * R.size + R.size ≤ l.length * R.size := by
    have := Nat.mul_le_mul_right R.size (Nat.succ_le_of_lt hi)
    rw [Nat.succ_mul] at this
    exact this
  have hp := R.pos
  apply List.ext_getElem?
  intro k
  rw [setAll_get _ _ _ _ (by rw [R.len, hl]; exact hb), R.len]
  rcases Nat.lt_or_ge k (l.length * R.size) with hk | hk
  · have hd : k / R.size < l.length := Nat.div_lt_of_lt_mul (by rw [Nat.mul_comm]; exact hk)
    have hm : k % R.size < R.size := Nat.mod_lt _ hp
    have hkk : k / R.size * R.size + k % R.size = k := by rw [Nat.mul_comm]; exact Nat.div_add_mod k R.size
    generalize k / R.size = q at *
    generalize k % R.size = r at *
    subst hkk
    by_cases hq : q = i
    · subst hq
      rw [if_pos (by omega), R.flat_get (l.set q e) q e r (by rw [List.getElem?_set_self hi]) hm]
      congr 1
      omega
    · have hne : ¬ (i * R.size ≤ q * R.size + r ∧ q * R.size + r < i * R.size + R.size) := fun ⟨h1, h2⟩ => by
        rcases Nat.lt_or_gt_of_ne hq with h | h
        · have := Nat.mul_le_mul_right R.size (Nat.succ_le_of_lt h)
          rw [Nat.succ_mul] at this
          omega
        · have := Nat.mul_le_mul_right R.size (Nat.succ_le_of_lt h)
          rw [Nat.succ_mul] at this
          omega
      rw [if_neg hne]
      obtain ⟨x, hx⟩ : ∃ x, l[q]? = some x := ⟨_, List.getElem?_eq_getElem hd⟩
      rw [R.flat_get l q x r hx hm, R.flat_get (l.set i e) q x r (by rw [List.getElem?_set_ne (by omega), hx]) hm]
  · rw [if_neg (by omega), List.getElem?_eq_none (by omega), List.getElem?_eq_none (by rw [R.flat_len, List.length_set]; omega)]
/-- An element put in. -/
theorem Row.put {g n c : Nat} (h : Row R w B (.slice (some ⟨g, 0, none⟩) n c) l) {i : Nat} (hi : i < l.length) (e : α) :
    Row R (w.setCells g (i * R.size) (R.enc e)) B (.slice (some ⟨g, 0, none⟩) n c) (l.set i e) ∧ w.grownBy (w.setCells g (i * R.size) (R.enc e)) (some g) := by
  have hn := Row.eq_len h
  subst hn
  have := own_setCells (R.enc e) (i * R.size) (R.flat l) w h
  rw [flat_set R l hi] at this
  unfold Row
  rw [List.length_set]
  exact this
/-- A store into a row. -/
theorem store_at {ops : Array Oper} {rest : List Oper} {o : Oper} {a : Act} {Q : Exit → Act → World → Prop} (hgd : o.guard = none) (ty : TypeId) (x y : Operand) (ho : o.op = .store ty x y)
    (g i n c off : Nat) (e : α) (hoff : off = i * R.size) (hx : a.eval x = .pointer (some ⟨g, off, none⟩)) (hy : a.eval y = .agg (R.enc e).toArray) (hty : ty = R.elem) (hg : Row R w B (.slice (some ⟨g, 0, none⟩) n c) l) (hi : i < l.length)
    (h : ∀ w', Row R w' B (.slice (some ⟨g, 0, none⟩) n c) (l.set i e) → w.grownBy w' (some g) → wpList P ops Q rest (a.put o.dst undef) w') : wpList P ops Q (o :: rest) a w := by
  subst hoff
  subst hty
  obtain ⟨x', hx'⟩ : ∃ x, l[i]? = some x := ⟨_, List.getElem?_eq_getElem hi⟩
  have hc := Row.cell hg hx'
  obtain ⟨inf, hi1, _, hi3, _⟩ := info_parts R.info
  refine wpList_store_mid hgd R.elem x y ho g (i * R.size) (R.enc e).toArray hx hy (fun j hj => ⟨?_, ?_⟩) ?_ (all_oneCell_toArray (R.one e)) (h _ (Row.put hg hi e).1 (Row.put hg hi e).2)
  · have hj' : j < R.size := by simpa [R.len] using hj
    rw [hc j hj', List.getElem?_eq_getElem (by rw [R.len]; exact hj')]
    rfl
  · have hn := Row.eq_len hg
    subst hn
    exact hg.frozenAt _
  · rw [hi1]
    simp [hi3, R.len]
theorem zeros_one (hz : ∀ v ∈ R.zero.cells.toList, v.oneCell' = true) (n : Nat) : ∀ v ∈ (Builtin.zeroCells R.zero.cells n).toList, v.oneCell' = true := by
  intro v hv
  simp only [Builtin.zeroCells, Array.toList_map, List.mem_map] at hv
  obtain ⟨i, _, rfl⟩ := hv
  have hp := R.pos
  have hs := R.zs
  have hlt : i % R.zero.cells.size < R.zero.cells.size := Nat.mod_lt _ (by omega)
  rw [getElem!_pos R.zero.cells _ hlt]
  exact hz _ (by simp)
/-- The end of a row cleared. -/
theorem Row.clear {g n c m c' : Nat} (h : Row R w B (.slice (some ⟨g, 0, none⟩) n c) l) {i : Nat} (hm : i + m = l.length) (hz : ∀ v ∈ R.zero.cells.toList, v.oneCell' = true) (hzv : ∀ w, (zeroValue R.elem).run P w = .ok R.zero w) (ty : TypeId) :
    ∃ w', (Builtin.clear_ #[R.slice] ty #[.slice (some ⟨g, i * R.size, none⟩) m c']).run P w = .ok (.tuple #[]) w' ∧ w.grownBy w' (some g) ∧ ∀ k e, k < i → l[k]? = some e → At R w' g (k * R.size) e := by
  have hn := Row.eq_len h
  subst hn
  rcases Nat.eq_zero_or_pos m with h0 | h0
  · subst h0
    refine ⟨w, ?_, World.grownBy.refl w _, fun k e _ he => Row.cell h he⟩
    simp [Builtin.clear_, run_underlying R.und]
  · have hlen : (Builtin.zeroCells R.zero.cells m).toList.length = m * R.size := by
      rw [Array.length_toList]
      simp [Builtin.zeroCells, R.zs]
    have hfit : i * R.size + m * R.size = l.length * R.size := by rw [← Nat.add_mul, hm]
    have hst := run_storeCells_cells (P := P) g (i * R.size) (Builtin.zeroCells R.zero.cells m).toList 0 w (fun j hj => by
      rw [hlen] at hj
      rw [Nat.add_zero, h.cellAt _ (by omega), List.getElem?_eq_getElem (by rw [R.flat_len]; omega)]
      rfl) (fun j hj => h.frozenAt _) (zeros_one hz m)
    simp only [Nat.add_zero] at hst
    refine ⟨w.setCells g (i * R.size) (Builtin.zeroCells R.zero.cells m).toList, ?_, (own_setCells _ (i * R.size) (R.flat l) w h).2, fun k e hk he j hj => ?_⟩
    · obtain ⟨m', rfl⟩ : ∃ m', m = m' + 1 := ⟨m - 1, by omega⟩
      simp [Builtin.clear_, run_underlying R.und, hzv, hst]
    · have hlt : k * R.size + R.size ≤ i * R.size := by
        have := Nat.mul_le_mul_right R.size (Nat.succ_le_of_lt hk)
        rw [Nat.succ_mul] at this
        exact this
      rw [World.cell?_setCells_out g _ (i * R.size) w ⟨g, k * R.size + j, none⟩ (fun _ _ => .inl (by show k * R.size + j < i * R.size; omega))]
      exact Row.cell h he j hj
end
end Go.Gr

set_option linter.unusedSimpArgs false
set_option linter.unusedVariables false
set_option maxRecDepth 100000
namespace Go.Sq
open Go Go.ChangeShapes Go.WideShapes Go.RowKit Go.Deep
theorem list_of {α : Type} {p : Nat → α → Prop} : ∀ (n : Nat), (∀ i, i < n → ∃ x, p i x) → ∃ l : List α, l.length = n ∧ ∀ i x, l[i]? = some x → p i x
  | 0, _ => ⟨[], rfl, fun i x h => by simp at h⟩
  | n + 1, h => by
    obtain ⟨l, hl, hp⟩ := list_of n (fun i hi => h i (by omega))
    obtain ⟨x, hx⟩ := h n (by omega)
    refine ⟨l ++ [x], by simp [hl], fun i y hy => ?_⟩
    rcases Nat.lt_or_ge i n with hi | hi
    · rw [List.getElem?_append_left (by omega)] at hy
      exact hp i y hy
    · have hlt := (List.getElem?_eq_some_iff.1 hy).1
      have : i = n := by simp at hlt; omega
      subst this
      rw [List.getElem?_append_right (by omega), hl] at hy
      simp at hy
      subst hy
      exact hx
section
variable {H : Type} {enc : TypeId × Value → H} {P : Program} {w : World} {base : Nat} {spare : Nat → Bool} {held : Bool}

theorem open_rows_any {r : Reach} {b0 : Nat} {t e : TypeId} {C : Nat} {v : Value} {d : DataW H} {p : List MemPlace} (ht : P.underlying t = some (.slice e))
    (hC : P.cellsOf e = C) (hpos : 0 < C) (hv : Value.okWide P w r b0 t v) (h : DataW.Trod enc P w base spare held t v d p) :
    ∃ (a : Option Addr) (len cap : Nat), v = .slice a len cap ∧ len ≤ cap ∧ cap ≤ maxLen ∧ (0 < len → ∃ b off, a = some ⟨b, off, none⟩ ∧ b < w.heap.size ∧ ∀ i, i < len →
      ∃ (cs : List Value) (n : Nat) (y : DataW H × List MemPlace), cs.length = C ∧ (∀ k, k < C → w.cell? ⟨b, off + i * C + k, none⟩ = cs[k]?) ∧ DataW.trod enc P w base spare held n e cs = some y) := by
  obtain ⟨a0, len, cap, rfl⟩ := okWide_slice ht hv
  obtain ⟨fuel, hf⟩ := h
  rcases open_slice ht hf with ⟨hcs, _⟩ | ⟨a, l, c, m, n, D, Pl, hcs, _, hl, hm, hmm, _, hi⟩
  · simp [Value.cells] at hcs
    obtain ⟨rfl, rfl, rfl⟩ := hcs
    exact ⟨none, 0, 0, rfl, Nat.le_refl _, by simp [maxLen], fun h => absurd h (by omega)⟩
  · simp [Value.cells] at hcs
    obtain ⟨rfl, rfl, rfl⟩ := hcs
    refine ⟨some a, len, cap, rfl, hl, hm, fun hlen => ?_⟩
    obtain ⟨b, off, rfl, hbl⟩ : ∃ b off, a = ⟨b, off, none⟩ ∧ b < w.heap.size := by
      obtain ⟨cs', hc, _⟩ := hi 0 (by rw [hmm]; split <;> omega)
      rw [hC] at hc
      obtain ⟨_, hcl, hat⟩ := World.cells?_some hc
      have h0 := hat 0 hpos
      rw [List.getElem?_eq_getElem (show 0 < cs'.length by omega)] at h0
      have hsp : a.spot = none := by simpa [Addr.add] using World.cell?_spot h0
      have hbl := World.block_lt_of_cell? _ _ h0
      rw [add_block, add_block] at hbl
      obtain ⟨b, off, spot⟩ := a
      obtain rfl : spot = none := hsp
      exact ⟨b, off, rfl, hbl⟩
    refine ⟨b, off, rfl, hbl, fun i hil => ?_⟩
    obtain ⟨cs', hc, ht'⟩ := hi i (by rw [hmm]; split <;> omega)
    rw [hC] at hc
    obtain ⟨_, hcl, hat⟩ := World.cells?_some hc
    refine ⟨cs', n, _, hcl, fun k hk => ?_, ht'⟩
    have h3 := hat k hk
    rw [add_none, add_none] at h3
    exact h3

/-- A struct of five numbers. -/
theorem five_of {n : Nat} {t : TypeId} {fs : Array Field} {l : List Value} {x : DataW H × List MemPlace} {ti : TypeId} (hs : P.underlying t = some (.struct fs)) (hone : oneCellFields P fs = true)
    (hC : P.cellsOf t = fs.size) (h5 : fs.size = 5) (hty : ∀ (j : Nat) (f : Field), fs[j]? = some f → P.underlying f.type = some (.int .i64)) (h : DataW.trod enc P w base spare held n t l = some x) :
    ∃ a b c d e : Int, l = [.int .i64 a, .int .i64 b, .int .i64 c, .int .i64 d, .int .i64 e] ∧ (Lit.int .i64 a).wf = true ∧ (Lit.int .i64 b).wf = true ∧ (Lit.int .i64 c).wf = true ∧ (Lit.int .i64 d).wf = true ∧ (Lit.int .i64 e).wf = true := by
  obtain ⟨hl, m, hf⟩ := cells_fields hs hone hC h
  rw [h5] at hl
  obtain ⟨c0, c1, c2, c3, c4, rfl⟩ := len5 hl
  have key : ∀ j c, j < 5 → [c0, c1, c2, c3, c4][j]? = some c → ∃ z, c = .int .i64 z ∧ (Lit.int .i64 z).wf = true := by
    intro j c hj hc
    have hj' : j < fs.size := by omega
    obtain ⟨c', y, h1, h2⟩ := hf j _ (Array.getElem?_eq_getElem hj')
    rw [hc] at h1
    cases h1
    obtain ⟨z, hz, _, hw⟩ := DataW.trod_int (hty j _ (Array.getElem?_eq_getElem hj')) h2
    exact ⟨z, by simpa using hz, hw⟩
  obtain ⟨a, rfl, wa⟩ := key 0 c0 (by omega) rfl
  obtain ⟨b, rfl, wb⟩ := key 1 c1 (by omega) rfl
  obtain ⟨c, rfl, wc⟩ := key 2 c2 (by omega) rfl
  obtain ⟨d, rfl, wd⟩ := key 3 c3 (by omega) rfl
  obtain ⟨e, rfl, we⟩ := key 4 c4 (by omega) rfl
  exact ⟨a, b, c, d, e, rfl, wa, wb, wc, wd, we⟩
end
end Go.Sq

namespace Go.Proofs.Ytdphfhenjndkkaa
open Go Go.ChangeShapes Go.WideShapes Go.RowKit Go.Deep Go.Sq
section
variable {H : Type} {enc : TypeId × Value → H} {w : World} {base : Nat} {spare : Nat → Bool} {held : Bool}

def wfEnt (e : Ent) : Prop := (Lit.int .i64 e.1).wf = true ∧ (Lit.int .i64 e.2.1).wf = true ∧ (Lit.int .i64 e.2.2.1).wf = true ∧ (Lit.int .i64 e.2.2.2.1).wf = true ∧ (Lit.int .i64 e.2.2.2.2.1).wf = true ∧ (Lit.int .i64 e.2.2.2.2.2).wf = true

theorem open_ent {n : Nat} {cs : List Value} {y : DataW H × List MemPlace} (h : DataW.trod enc Try.prog w base spare held n 64 cs = some y) : ∃ e : Ent, cs = vals e ∧ wfEnt e := by
  have hC : Try.prog.cellsOf 64 = 6 := by kernel_rfl
  have hCo : Try.prog.cellsOf 39 = 5 := by kernel_rfl
  have hCi : Try.prog.cellsOf 3 = 1 := by kernel_rfl
  obtain ⟨xs, m, _, _, hl, hlen, hg⟩ := DataW.trod_struct Try.underlying64 h
  rw [hC] at hl
  obtain ⟨c0, c1, c2, c3, c4, c5, rfl⟩ := len6 hl
  have h0 := hg 0 _ rfl
  have h1 := hg 1 _ rfl
  simp only [List.getElem_toArray, List.getElem_cons_zero, List.getElem_cons_succ] at h0 h1
  rw [hCi] at h0
  rw [hCo] at h1
  simp only [List.drop_zero, List.take_succ_cons, List.take_zero, List.drop_succ_cons] at h0 h1
  have hx : xs.length = 2 := hlen
  obtain ⟨x0, x1, rfl⟩ := len2 hx
  obtain ⟨z, hz, _, hw⟩ := DataW.trod_int Try.underlying3 h0
  obtain ⟨a, b, c, d, e, h5, wa, wb, wc, wd, we⟩ := five_of (ti := 3) Try.underlying39 (by kernel_rfl) (by kernel_rfl) rfl (by
    intro j f hf
    have hj : j < 5 := (Array.getElem?_eq_some_iff.1 hf).1
    obtain rfl | rfl | rfl | rfl | rfl : j = 0 ∨ j = 1 ∨ j = 2 ∨ j = 3 ∨ j = 4 := by omega
    all_goals
      cases hf
      exact Try.underlying3) h1
  cases hz
  cases h5
  exact ⟨(z, a, b, c, d, e), rfl, hw, wa, wb, wc, wd, we⟩

theorem open_ents {r : Reach} {b0 : Nat} {v : Value} {d : DataW H} {p : List MemPlace} (hv : Value.okWide Try.prog w r b0 35 v) (h : DataW.Trod enc Try.prog w base spare held 35 v d p) :
    ∃ (A : Option Addr) (l : List Ent) (c : Nat), v = .slice A l.length c ∧ l.length ≤ c ∧ c ≤ 9223372036854775807 ∧ Ents w w.heap.size A l ∧ ∀ e ∈ l, wfEnt e := by
  obtain ⟨A, len, cap, rfl, h1, h2, h3⟩ := open_rows_any Try.underlying35 (C := 6) (by kernel_rfl) (by omega) hv h
  have h2' : cap ≤ 9223372036854775807 := by simp only [maxLen] at h2; omega
  rcases Nat.eq_zero_or_pos len with h0 | h0
  · subst h0
    exact ⟨A, [], cap, rfl, h1, h2', Ents.nil, by simp⟩
  · obtain ⟨b, off, rfl, hb, hrow⟩ := h3 h0
    obtain ⟨l, hl, hp⟩ := list_of (p := fun i e => EntAt w b (off + i * 6) e ∧ wfEnt e) len (fun i hi => by
      obtain ⟨cs, n, y, hcl, hcell, ht⟩ := hrow i hi
      obtain ⟨e, rfl, hw⟩ := open_ent ht
      exact ⟨e, ⟨hcell 0 (by omega), hcell 1 (by omega), hcell 2 (by omega), hcell 3 (by omega), hcell 4 (by omega), hcell 5 (by omega)⟩, hw⟩)
    subst hl
    refine ⟨_, l, cap, rfl, h1, h2', fun _ => ⟨b, off, rfl, hb, fun i e he => (hp i e he).1⟩, fun e he => ?_⟩
    obtain ⟨i, hi⟩ := List.getElem?_of_mem he
    exact (hp i e hi).2
end
end Go.Proofs.Ytdphfhenjndkkaa

set_option linter.unusedSimpArgs false
set_option linter.unusedVariables false
set_option maxRecDepth 100000
namespace Go.Proofs.Ytdphfhenjndkkaa
open Go Go.ChangeShapes Go.WideShapes Go.RowKit Go.Sq Go.Wd Go.Deep

/-- These numbers stand at A, below block B. -/
def Nums (w : World) (B : Nat) (A : Option Addr) (k : IntKind) (l : List Int) : Prop :=
  0 < l.length → ∃ b off, A = some ⟨b, off, none⟩ ∧ b < B ∧ ∀ i x, l[i]? = some x → w.cell? ⟨b, off + i, none⟩ = some (.int k x)
theorem Nums.below {w w' : World} {B : Nat} {A : Option Addr} {k : IntKind} {l : List Int} (h : Nums w B A k l) (hb : Below B w w') : Nums w' B A k l := fun hl => by
  obtain ⟨b, off, ha, hB, hc⟩ := h hl
  exact ⟨b, off, ha, hB, fun i e he => (hb.cell (p := ⟨b, _, none⟩) hB).trans (hc i e he)⟩
theorem Nums.more {w : World} {B B' : Nat} {A : Option Addr} {k : IntKind} {l : List Int} (h : Nums w B A k l) (hB : B ≤ B') : Nums w B' A k l := fun hl => by
  obtain ⟨b, off, ha, hb, hc⟩ := h hl
  exact ⟨b, off, ha, by omega, hc⟩
/-- One of them. -/
theorem Nums.at_ {w : World} {B : Nat} {A : Option Addr} {k : IntKind} {l : List Int} (h : Nums w B A k l) {j : Nat} (hj : j < l.length) :
    ∃ b off x, A = some ⟨b, off, none⟩ ∧ Hid (l[j]? = some x) ∧ ∀ w', Below B w w' → w'.cell? ⟨b, off + j, none⟩ = some (.int k x) := by
  obtain ⟨b, off, ha, hB, hc⟩ := h (by omega)
  have he := List.getElem?_eq_getElem hj
  exact ⟨b, off, _, ha, Lib.hid he, fun w' hb => (hb.cell (p := ⟨b, _, none⟩) hB).trans (hc j _ he)⟩
section
variable {H : Type} {enc : TypeId × Value → H} {P : Program} {w : World} {base : Nat} {spare : Nat → Bool} {held : Bool}
theorem open_slice_nums {r : Reach} {b0 : Nat} {t e : TypeId} {k : IntKind} {v : Value} {d : DataW H} {p : List MemPlace} (ht : P.underlying t = some (.slice e)) (he : P.underlying e = some (.int k))
    (hC : P.cellsOf e = 1) (hv : Value.okWide P w r b0 t v) (h : DataW.Trod enc P w base spare held t v d p) :
    ∃ (A : Option Addr) (l : List Int) (c : Nat), v = .slice A l.length c ∧ l.length ≤ c ∧ c ≤ 9223372036854775807 ∧ Nums w w.heap.size A k l ∧ ∀ x ∈ l, (Lit.int k x).wf = true := by
  obtain ⟨A, len, cap, rfl, h1, h2, h3⟩ := open_rows_any ht (C := 1) hC (by omega) hv h
  have h2' : cap ≤ 9223372036854775807 := by simp only [maxLen] at h2; omega
  rcases Nat.eq_zero_or_pos len with h0 | h0
  · subst h0
    exact ⟨A, [], cap, rfl, h1, h2', fun h => absurd h (by simp), by simp⟩
  · obtain ⟨b, off, rfl, hb, hrow⟩ := h3 h0
    obtain ⟨l, hl, hp⟩ := list_of (p := fun i x => w.cell? ⟨b, off + i, none⟩ = some (.int k x) ∧ (Lit.int k x).wf = true) len (fun i hi => by
      obtain ⟨cs, n, y, hcl, hcell, ht⟩ := hrow i hi
      obtain ⟨z, hz, _, hw⟩ := DataW.trod_int he ht
      refine ⟨z, ?_, hw⟩
      have := hcell 0 (by omega)
      rw [hz] at this
      simpa using this)
    subst hl
    refine ⟨_, l, cap, rfl, h1, h2', fun _ => ⟨b, off, rfl, hb, fun i e he => (hp i e he).1⟩, fun e he => ?_⟩
    obtain ⟨i, hi⟩ := List.getElem?_of_mem he
    exact (hp i e hi).2
end
end Go.Proofs.Ytdphfhenjndkkaa

set_option linter.unusedSimpArgs false
set_option linter.unusedVariables false
set_option maxRecDepth 100000
namespace Go.Proofs.Ytdphfhenjndkkaa
open Go Go.RowKit Go.Sq Go.Wd

theorem int_info : (Try.prog.info? 3).map (fun i => (i.zero, i.size, i.bytes)) = some (some (.int .i64 0), 1, 8) := by kernel_rfl
theorem addi_off (b o j : Nat) : (⟨b, o, none⟩ : Addr).add j = ⟨b, o + j, none⟩ := by
  simp [Addr.add]
abbrev RowI (w : World) (B : Nat) (v : Value) (l : List Int) : Prop := w.ownsRow B 3 1 v l.length (l.map (Value.int .i64))
theorem RowI.nil (w : World) (B : Nat) : RowI w B (.slice none 0 0) [] := World.ownsRow_nil _ _ _ _
theorem RowI.keep {w w' : World} {B : Nat} {v : Value} {l : List Int} (h : RowI w B v l) (hb : Below w.heap.size w w') : RowI w' B v l := h.kept (only_of_below hb none) (by
  cases hv : v.ownBlock with
  | none => exact .inl rfl
  | some g => exact .inr (fun e => by cases e))
theorem RowI.form {w : World} {B : Nat} {v : Value} {l : List Int} (h : RowI w B v l) : ∃ A c, v = .slice A l.length c ∧ l.length ≤ c ∧ c ≤ 9223372036854775807 ∧ Nums w w.heap.size A .i64 l := by
  rcases id h.2 with ⟨rfl, hl⟩ | ⟨g, cap, cur, rfl, h1, h2, h3, h4, _⟩
  · have he : l = [] := List.eq_nil_of_length_eq_zero hl
    subst he
    exact ⟨none, 0, rfl, Nat.le_refl _, by omega, fun h => absurd h (by simp)⟩
  · refine ⟨_, cap, rfl, h3, by simp only [maxLen] at h4; omega, fun _ => ⟨g, 0, rfl, (Array.getElem?_eq_some_iff.1 h2).1, fun i x hx => ?_⟩⟩
    have hi := (List.getElem?_eq_some_iff.1 hx).1
    rw [Nat.zero_add, h.cellAt i (by omega), List.getElem?_map, hx]
    rfl
/-- Numbers appended, out of a slice that may be nil. -/
theorem RowI.app {W : World} {B : Nat} {v : Value} {l m : List Int} (h : RowI W B v l) (A : Option Addr) (c : Nat) (ha : Nums W W.heap.size A .i64 m) (hl : l.length + m.length ≤ 2000) (hB : B ≤ W.heap.size) :
    ∃ v' w', (Builtin.append_ #[113, 113] 113 #[v, .slice A m.length c]).run Try.prog W = .ok v' w' ∧ RowI w' B v' (l ++ m) ∧ W.grownBy w' v.ownBlock ∧ (v'.ownBlock = v.ownBlock ∨ v'.ownBlock = some W.heap.size) := by
  obtain ⟨v1, w1, h1, h2, h3, h4⟩ := append_all (P := Try.prog) 113 Try.underlying113 int_info rfl (by omega) h A m.length c (m.map (Value.int .i64)) (by simp) (fun h0 => by
    obtain ⟨b, off, e, hb, hc⟩ := ha h0
    refine ⟨⟨b, off, none⟩, e, fun j u hu => ?_⟩
    rw [List.getElem?_map] at hu
    cases hm : m[j]? with
    | none => rw [hm] at hu; cases hu
    | some x =>
      rw [hm] at hu
      cases hu
      rw [addi_off]
      exact hc j x hm) (fun u hu => by
    obtain ⟨x, _, rfl⟩ := List.mem_map.1 hu
    rfl) (by simp only [maxLen]; omega) (by omega) hB
  refine ⟨v1, w1, h1, ?_, h3, h4⟩
  unfold RowI
  rw [List.length_append, List.map_append]
  exact h2
/-- One number, in a new block. -/
theorem nums_one (w : World) (x : Int) : Nums (w.alloc (.cells #[.int .i64 x] 3)) (w.alloc (.cells #[.int .i64 x] 3)).heap.size (some ⟨w.heap.size, 0, none⟩) .i64 [x] := fun _ => by
  have hb := Blk.new w 3 [.int .i64 x]
  refine ⟨_, 0, rfl, hb.lt, fun i y hy => ?_⟩
  have hi := (List.getElem?_eq_some_iff.1 hy).1
  obtain rfl : i = 0 := by simpa using hi
  cases hy
  exact hb.cell 0
theorem RowI.at_ {w : World} {B g c : Nat} {l : List Int} (h : RowI w B (.slice (some ⟨g, 0, none⟩) l.length c) l) {j : Nat} {x : Int} (hx : l[j]? = some x) : w.cell? ⟨g, j, none⟩ = some (.int .i64 x) := by
  have hi := (List.getElem?_eq_some_iff.1 hx).1
  rw [h.cellAt j (by omega), List.getElem?_map, hx]
  rfl
theorem RowI.set {w : World} {B g c : Nat} {l : List Int} (h : RowI w B (.slice (some ⟨g, 0, none⟩) l.length c) l) (j : Nat) (x : Int) : RowI (w.setCell ⟨g, j, none⟩ (.int .i64 x)) B (.slice (some ⟨g, 0, none⟩) l.length c) (l.set j x) := by
  have := (World.ownsRow.stored h j (.int .i64 x)).1
  unfold RowI
  rw [List.length_set, List.map_set]
  exact this
theorem RowI.empty (w : World) : RowI (w.alloc (.cells #[] 3)) w.heap.size (.slice (some ⟨w.heap.size, 0, none⟩) 0 0) [] := by
  have h := World.ownsRow_made (base := w.heap.size) (e := 3) (size := 1) w #[] 0 (Nat.le_refl _) (by simp [maxLen]) (by simp)
  exact h
/-- The copy of a list of numbers. -/
theorem copyI_run (l : List Int) (A : Option Addr) (c : Nat) (W : World) (ha : Nums W W.heap.size A .i64 l) (hl : l.length ≤ 2000) :
    ∃ v' w', (Builtin.append_ #[113, 113] 113 #[.slice (some ⟨W.heap.size, 0, none⟩) 0 0, .slice A l.length c]).run Try.prog (W.alloc (.cells #[] 3)) = .ok v' w' ∧ RowI w' W.heap.size v' l ∧ Below W.heap.size W w' := by
  have h0 : Below W.heap.size W (W.alloc (.cells #[] 3)) := (Below.refl _ _).alloc (Nat.le_refl _) _
  obtain ⟨v1, w1, h1, h2, h3, _⟩ := RowI.app (RowI.empty W) A c ((ha.below h0).more h0.size) (by simpa using hl) (by simp)
  exact ⟨v1, w1, h1, h2, below_own h0 h3 (RowI.empty W) h0.size⟩
end Go.Proofs.Ytdphfhenjndkkaa

set_option linter.unusedSimpArgs false
set_option linter.unusedVariables false
set_option maxRecDepth 100000
namespace Go.Proofs.Ytdphfhenjndkkaa
open Go Go.RowKit Go.Sq Go.Wd Go.Arch

theorem bepoch_any (B g : Nat) (b : BegS) (S : Slots) (w : World) (H : BalAt w B g b S) (hn : b.n ≠ 0) :
    Calls Try.prog 78 #[.pointer (some ⟨g, 0, none⟩)] w fun e w' => e = .returned (.int .i64 b.epoch) ∧ w' = w := by
  obtain ⟨sl, hb, _⟩ := H
  have c3 : w.cell? ⟨g, 3, none⟩ = some (.int .i64 b.n) := hb.cell 3
  have c1 : w.cell? ⟨g, 1, none⟩ = some (.int .i64 b.epoch) := hb.cell 1
  have hz : (b.n == 0) = false := by rw [beq_eq_false_iff_ne]; exact hn
  clear hb hn
  go_enter Try.func78, Try.ntmps78
  go_wp2_with fail
  refine (none_any g b.n w c3).mono ?_
  rintro e w1 ⟨rfl, rfl⟩
  rw [hz]
  go_wp2_with fail
  go_ret
  exact ⟨rfl, rfl⟩
theorem bstamp_any (B g : Nat) (b : BegS) (S : Slots) (w : World) (H : BalAt w B g b S) (hn : b.n ≠ 0) :
    Calls Try.prog 79 #[.pointer (some ⟨g, 0, none⟩)] w fun e w' => e = .returned (.int .i64 b.stamp) ∧ w' = w := by
  obtain ⟨sl, hb, _⟩ := H
  have c3 : w.cell? ⟨g, 3, none⟩ = some (.int .i64 b.n) := hb.cell 3
  have c4 : w.cell? ⟨g, 4, none⟩ = some (.int .i64 b.stamp) := hb.cell 4
  have hz : (b.n == 0) = false := by rw [beq_eq_false_iff_ne]; exact hn
  clear hb hn
  go_enter Try.func79, Try.ntmps79
  go_wp2_with fail
  refine (none_any g b.n w c3).mono ?_
  rintro e w1 ⟨rfl, rfl⟩
  rw [hz]
  go_wp2_with fail
  go_ret
  exact ⟨rfl, rfl⟩
theorem bool_size : ∀ w : World, (sizeOf 4).run Try.prog w = .ok 1 w := fun w => by kernel_rfl
theorem idx7 (a0 a1 a2 a3 a4 a5 a6 : Value) (k : Nat) (v : Value) (z : Int) (hz : z = k) (h : [a0, a1, a2, a3, a4, a5, a6][k]? = some v) (w : World) : (Instr.index 130 (.agg #[a0, a1, a2, a3, a4, a5, a6]) (.int .i64 z)).run Try.prog w = .ok v w := by
  subst hz
  have hk : k < 7 := (List.getElem?_eq_some_iff.1 h).1
  have hs := bool_size w
  obtain rfl | rfl | rfl | rfl | rfl | rfl | rfl := cases7 hk
  all_goals
    simp at h
    subst h
    simp [Instr.index, run_underlying Try.underlying130, go_sem, hs]
theorem hadv_at (S : Slots) {k : Nat} (h : k < 7) : (hadv S)[k]? = some (.bool (S k).isSome) := by
  obtain rfl | rfl | rfl | rfl | rfl | rfl | rfl := cases7 h
  all_goals rfl
theorem idxS (S : Slots) (k : Nat) (h : k < 7) (w : World) : (Instr.index 130 (.agg (hadv S).toArray) (.int .i64 (k : Int))).run Try.prog w = .ok (.bool (S k).isSome) w :=
  idx7 _ _ _ _ _ _ _ k _ _ rfl (hadv_at S h) w

abbrev RegV := Int × Int × (Option Addr × Nat × Nat) × Int
/-- Registers as they lie. -/
def regVE (r : RegV) : List Value := [.int .i64 r.1, .int .i64 r.2.1, .slice r.2.2.1.1 r.2.2.1.2.1 r.2.2.1.2.2, .int .i64 r.2.2.2]
def regE : Gr.Enc Try.prog RegV where
  elem := 37
  slice := 141
  size := 4
  bytes := 48
  zero := .agg #[.int .i64 0, .int .i64 0, .slice none 0 0, .int .i64 0]
  enc := regVE
  len := fun _ => rfl
  one := fun a v hv => by
    simp only [regVE, List.mem_cons, List.not_mem_nil, or_false] at hv
    rcases hv with rfl | rfl | rfl | rfl <;> rfl
  pos := by omega
  und := Try.underlying141
  info := by kernel_rfl
  zs := rfl
  few := by omega
def vOf (r : RegS) (s : SlcE) : RegV := (r.prom, r.view, s, r.com)
theorem vOf_enc (r : RegS) (s : SlcE) : regVE (vOf r s) = rgv r s := rfl
def listV (S : Slots) (sl : Sls) (j : Nat) : List RegV := (List.range j).filterMap fun i => (S i).map fun r => vOf r (sl i)
theorem listV_some {S : Slots} {sl : Sls} {j : Nat} {r : RegS} (h : S j = some r) : listV S sl (j + 1) = listV S sl j ++ [vOf r (sl j)] := by
  unfold listV
  rw [List.range_succ, List.filterMap_append]
  simp [h]
theorem listV_none {S : Slots} {sl : Sls} {j : Nat} (h : S j = none) : listV S sl (j + 1) = listV S sl j := by
  unfold listV
  rw [List.range_succ, List.filterMap_append]
  simp [h]
theorem listV_len (S : Slots) (sl : Sls) (j : Nat) : (listV S sl j).length = (listTo S j).length := by
  induction j with
  | zero => rfl
  | succ j ih =>
    cases h : S j with
    | none => rw [listV_none h, listTo_none h, ih]
    | some r => rw [listV_some h, listTo_some h, List.length_append, List.length_append, ih]; rfl

set_option maxHeartbeats 2000000 in
theorem list_any (g : Nat) (b : BegS) (S : Slots) (sl : Sls) (w : World) (hb : Blk w g 133 (balv b S sl)) :
    Calls Try.prog 92 #[.pointer (some ⟨g, 0, none⟩)] w fun e w' => ∃ v, e = .returned v ∧ Gr.Row regE w' w.heap.size v (listV S sl 7) ∧ Below w.heap.size w w' := by
  have hw : Below w.heap.size w w := Below.refl _ _
  have hg := hb.lt
  have H := Lib.hid hb
  clear hb
  go_enter Try.func92, Try.ntmps92
  go_wp2_with ((with_reducible refine at_list ?_); refine wpList_load_part rfl 130 _ rfl g 5 rfl _ _ (hadv S) H.out (balv_hads b S sl) _ Try.underlying130 rfl had7_info ?_)
  go_loopg [3, 10] 7 (fun q v i wr => ∃ j : Nat, q = 7 - j ∧ j ≤ 7 ∧ i = .int .i64 j ∧ Below w.heap.size w wr ∧ Gr.Row regE wr w.heap.size v (listV S sl j))
  case atStart => exact ⟨0, rfl, by omega, rfl, hw, Gr.Row.nil (R := regE) w _⟩
  case round =>
    clear hw
    obtain ⟨j, hq, hj, rfl, hwr, hR⟩ := hrel
    have AA : Aside (gk = 7 - j) := hq
    clear hq
    have hbr := H.out.keep hwr
    have HB := Lib.hid hbr
    clear hbr
    by_cases hlt : j < 7
    · have hi7 : (j : Int) < 7 := by omega
      have hi0 : (0 : Int) ≤ (j : Int) := by omega
      have hix := idxS S j hlt wr
      cases hS : S j with
      | none =>
        have HS := Lib.hid hS
        rw [hS] at hix
        clear hS
        have hix' : (Instr.index 130 (.agg (hadv S).toArray) (.int .i64 (j : Int))).run Try.prog wr = .ok (.bool false) wr := hix
        clear hix
        go_wp2_with fail
        go_roundg (7 - (j + 1))
        case measure => have hkk := AA.out; omega
        case rel => exact ⟨j + 1, rfl, by omega, by go_num, hwr, by rw [listV_none HS.out]; exact hR⟩
      | some r =>
        have HS := Lib.hid hS
        rw [hS] at hix
        clear hS
        have hix' : (Instr.index 130 (.agg (hadv S).toArray) (.int .i64 (j : Int))).run Try.prog wr = .ok (.bool true) wr := hix
        clear hix
        have hp : ∀ k, k < (regVE (vOf r (sl j))).length → (balv b S sl)[12 + j * 4 + k]? = (regVE (vOf r (sl j)))[k]? := by
          have hq := balv_slot b S sl hlt
          have he : slotv S sl j = regVE (vOf r (sl j)) := by
            unfold slotv regOf
            rw [HS.out]
            rfl
          rw [he] at hq
          exact hq
        have HP := Lib.hid hp
        clear hp
        have hl7 := listV_len S sl j
        have hl8 := listTo_len S j
        obtain ⟨v2, w2, hrun, hR2, hg2, _⟩ := Gr.Row.snoc hR (vOf r (sl j)) (by omega) hwr.size (H := wr.heap.size) rfl 141
        have hb2 := Gr.below_row hwr hg2 hR hwr.size
        clear hg2 hR hl7 hl8
        have hrun' : (Builtin.append_ #[141, 141] 141 #[u3, .slice (some ⟨wr.heap.size, 0, none⟩) 1 1]).run Try.prog (wr.alloc (.cells #[.int .i64 r.prom, .int .i64 r.view, .slice (sl j).1 (sl j).2.1 (sl j).2.2, .int .i64 r.com] 37)) = .ok v2 w2 := hrun
        clear hrun
        go_wp2_with (first | ((with_reducible refine at_list ?_); refine wpList_load_part rfl 37 _ rfl g (12 + j * 4) rfl _ _ [.int .i64 r.prom, .int .i64 r.view, .slice (sl j).1 (sl j).2.1 (sl j).2.2, .int .i64 r.com] HB.out HP.out _ Try.underlying37 rfl rg_info ?_) | (at_builtin; refine wpList_app rfl (by rfl) (by rfl) (by rfl) hrun' ?_))
        go_roundg (7 - (j + 1))
        case measure => have hkk := AA.out; omega
        case rel => exact ⟨j + 1, rfl, by omega, by go_num, hb2, by rw [listV_some HS.out]; exact hR2⟩
    · have hj' : j = 7 := by omega
      subst hj'
      clear hlt
      go_wp2_with fail
      go_ret
      exact ⟨_, rfl, hR, hwr⟩
end Go.Proofs.Ytdphfhenjndkkaa

set_option linter.unusedSimpArgs false
set_option linter.unusedVariables false
set_option maxRecDepth 100000
namespace Go.Proofs.Ytdphfhenjndkkaa
open Go Go.RowKit Go.Sq Go.Wd Go.Arch

set_option maxHeartbeats 2000000 in
theorem won_any (g : Nat) (b : BegS) (S : Slots) (sl : Sls) (w : World) (hb : Blk w g 133 (balv b S sl)) (hn : b.n ≠ 0) :
    Calls Try.prog 77 #[.pointer (some ⟨g, 0, none⟩)] w fun e w' => e = .returned (.bool (wonS b S)) ∧ Below w.heap.size w w' := by
  have hw : Below w.heap.size w w := Below.refl _ _
  have hz : (b.n == 0) = false := by rw [beq_eq_false_iff_ne]; exact hn
  have H := Lib.hid hb
  have FC : ∀ w', Below w.heap.size w w' → w'.cell? ⟨g, 3, none⟩ = some (.int .i64 b.n) := fun w' h => (H.out.keep h).cell 3
  have hg := hb.lt
  clear hb hn
  go_enter Try.func77, Try.ntmps77
  go_wp2_with fail
  refine wp_region_p ([(0, true), (1, true), (2, true), (3, true), (4, true), (7, true), (8, true), (9, true), (10, true), (5, false), (6, true), (11, true), (12, true), (13, true), (14, true)]) (fun w' => Below w.heap.size w w') (by kernel_rfl) rfl (by kernel_rfl) (by kernel_rfl) (hw.drew) rfl ?_
  intro KP RP TP hKP hTP hTP'
  simp only [pick, nth]
  go_wp2_with (first
    | (apply SeqP.skip; rfl; simp only [Act.put, List.setIfInBounds_toArray, List.set_cons_zero, List.set_cons_succ])
    | (apply SeqP.call; rfl; rfl; (intro w2 hw; have hw := hTP _ hw; ((have q3 := FC _ hw)); go_simp; exact ⟨rfl, rfl⟩); (intro w2 hw; have hw := hTP _ hw; ((have q3 := FC _ hw)); (first | (go_at_call 80; refine (none_any g b.n _ (FC _ hw)).mono ?_; rintro e w' ⟨rfl, rfl⟩; exact ⟨rfl, rfl⟩) | (go_at_call 82; refine (maj_any _ _).mono ?_; rintro e w' ⟨rfl, rfl⟩; exact ⟨rfl, rfl⟩))); simp only [Act.put, List.setIfInBounds_toArray, List.set_cons_zero, List.set_cons_succ])
    | (apply SeqP.pure; rfl; (intro w2 hw; have hw := hTP _ hw; ((have q3 := FC _ hw)); go_simp; with_reducible rfl); simp only [Act.put, List.setIfInBounds_toArray, List.set_cons_zero, List.set_cons_succ])
    | (apply SeqP.split; rfl; rfl; all_goals (intro hc; simp only [hc]; try simp only [beq_iff_eq, decide_eq_true_eq, beq_eq_false_iff_ne, decide_eq_false_iff_not, bne_iff_ne, ne_eq, Bool.not_eq_true', Bool.not_eq_false', Int.not_le, Int.not_lt, bne_eq_false_iff_eq, Bool.or_eq_true, Bool.and_eq_true, Bool.or_eq_false_iff] at hc)))
  apply SeqP.eff
  · rfl
  intro KE hKE
  go_wp2_with fail
  refine (list_any g b S sl _ (H.out.keep hw.drew)).mono ?_
  rintro e w1 ⟨v, rfl, hR, hb⟩
  have hw1 := below_trans hw.drew hb hw.drew.size
  obtain ⟨A, c, rfl, _, _, _⟩ := Gr.Row.form hR
  rw [listV_len S sl 7]
  refine hKE _ _ (hTP' _ hw1) ?_
  clear hKE hb hR
  have HW := Lib.hid (show wonS b S = decide (majE b.n ≤ ((listTo S 7).length : Int)) from rfl)
  generalize (listTo S 7).length = L at HW ⊢
  go_wp2_with (first
    | (apply SeqP.skip; rfl; simp only [Act.put, List.setIfInBounds_toArray, List.set_cons_zero, List.set_cons_succ])
    | (apply SeqP.call; rfl; rfl; (intro w2 hw; have hw := hTP _ hw; ((have q3 := FC _ hw)); go_simp; exact ⟨rfl, rfl⟩); (intro w2 hw; have hw := hTP _ hw; ((have q3 := FC _ hw)); (first | (go_at_call 80; refine (none_any g b.n _ (FC _ hw)).mono ?_; rintro e w' ⟨rfl, rfl⟩; exact ⟨rfl, rfl⟩) | (go_at_call 82; refine (maj_any _ _).mono ?_; rintro e w' ⟨rfl, rfl⟩; exact ⟨rfl, rfl⟩))); simp only [Act.put, List.setIfInBounds_toArray, List.set_cons_zero, List.set_cons_succ])
    | (apply SeqP.pure; rfl; (intro w2 hw; have hw := hTP _ hw; ((have q3 := FC _ hw)); go_simp; with_reducible rfl); simp only [Act.put, List.setIfInBounds_toArray, List.set_cons_zero, List.set_cons_succ])
    | (apply SeqP.split; rfl; rfl; all_goals (intro hc; simp only [hc]; try simp only [beq_iff_eq, decide_eq_true_eq, beq_eq_false_iff_ne, decide_eq_false_iff_not, bne_iff_ne, ne_eq, Bool.not_eq_true', Bool.not_eq_false', Int.not_le, Int.not_lt, bne_eq_false_iff_eq, Bool.or_eq_true, Bool.and_eq_true, Bool.or_eq_false_iff] at hc)))
  apply SeqP.nil
  refine hKP _ _ (hTP' _ (hw1)) ?_
  clear hKP hTP hTP'
  go_wp2_with fail
  go_ret
  rw [HW.out]
  exact ⟨ret_bool (by first | rfl | simp), hw1⟩
def sitesTo (S : Slots) (j : Nat) : List Int := (List.range j).filterMap fun i => (S i).map fun _ => (i : Int)
theorem sitesTo_some {S : Slots} {j : Nat} {r : RegS} (h : S j = some r) : sitesTo S (j + 1) = sitesTo S j ++ [(j : Int)] := by
  unfold sitesTo
  rw [List.range_succ, List.filterMap_append]
  simp [h]
theorem sitesTo_none {S : Slots} {j : Nat} (h : S j = none) : sitesTo S (j + 1) = sitesTo S j := by
  unfold sitesTo
  rw [List.range_succ, List.filterMap_append]
  simp [h]
theorem sitesTo_len (S : Slots) (j : Nat) : (sitesTo S j).length = (listTo S j).length := by
  induction j with
  | zero => rfl
  | succ j ih =>
    cases h : S j with
    | none => rw [sitesTo_none h, listTo_none h, ih]
    | some r => rw [sitesTo_some h, listTo_some h, List.length_append, List.length_append, ih]; rfl

set_option maxHeartbeats 2000000 in
theorem bsites_any (g : Nat) (b : BegS) (S : Slots) (sl : Sls) (w : World) (hb : Blk w g 133 (balv b S sl)) (hn : b.n ≠ 0) :
    Calls Try.prog 56 #[.pointer (some ⟨g, 0, none⟩)] w fun e w' => ∃ v, e = .returned v ∧ RowI w' w.heap.size v (sitesTo S 7) ∧ Below w.heap.size w w' := by
  have hw : Below w.heap.size w w := Below.refl _ _
  have hz : (b.n == 0) = false := by rw [beq_eq_false_iff_ne]; exact hn
  have hg := hb.lt
  have c3 : w.cell? ⟨g, 3, none⟩ = some (.int .i64 b.n) := hb.cell 3
  have H := Lib.hid hb
  clear hb hn
  go_enter Try.func56, Try.ntmps56
  go_wp2_with fail
  refine (none_any g b.n w c3).mono ?_
  rintro e w1 ⟨rfl, rfl⟩
  rw [hz]
  clear c3
  go_wp2_with ((with_reducible refine at_list ?_); refine wpList_load_part rfl 130 _ rfl g 5 rfl _ _ (hadv S) H.out (balv_hads b S sl) _ Try.underlying130 rfl had7_info ?_)
  go_loopg [3, 12] 7 (fun q v i wr => ∃ j : Nat, q = 7 - j ∧ j ≤ 7 ∧ i = .int .i64 j ∧ Below w1.heap.size w1 wr ∧ RowI wr w1.heap.size v (sitesTo S j))
  case atStart => exact ⟨0, rfl, by omega, rfl, hw, RowI.nil w1 _⟩
  case round =>
    clear hw
    obtain ⟨j, hq, hj, rfl, hwr, hR⟩ := hrel
    have AA : Aside (gk = 7 - j) := hq
    clear hq
    by_cases hlt : j < 7
    · have hi7 : (j : Int) < 7 := by omega
      have hi0 : (0 : Int) ≤ (j : Int) := by omega
      have hix := idxS S j hlt wr
      cases hS : S j with
      | none =>
        have HS := Lib.hid hS
        rw [hS] at hix
        clear hS
        have hix' : (Instr.index 130 (.agg (hadv S).toArray) (.int .i64 (j : Int))).run Try.prog wr = .ok (.bool false) wr := hix
        clear hix
        go_wp2_with fail
        go_roundg (7 - (j + 1))
        case measure => have hkk := AA.out; omega
        case rel => exact ⟨j + 1, rfl, by omega, by go_num, hwr, by rw [sitesTo_none HS.out]; exact hR⟩
      | some r =>
        have HS := Lib.hid hS
        rw [hS] at hix
        clear hS
        have hix' : (Instr.index 130 (.agg (hadv S).toArray) (.int .i64 (j : Int))).run Try.prog wr = .ok (.bool true) wr := hix
        clear hix
        have hl7 := sitesTo_len S j
        have hl8 := listTo_len S j
        have hW : Below w1.heap.size w1 (wr.alloc (.cells #[.int .i64 (j : Int)] 3)) := hwr.alloc hwr.size _
        obtain ⟨v2, w2, hrun, hO2, hg2, _⟩ := append_one (P := Try.prog) (W := wr) 113 Try.underlying113 int_info rfl (by omega) hR [.int .i64 (j : Int)] rfl (by simp [Value.oneCell']) (by simp only [maxLen]; omega) (by omega) hwr.size rfl
        have hb2 := below_own hwr hg2 hR hwr.size
        clear hg2 hR hl7 hl8 hW
        go_wp2_with (at_builtin; refine wpList_app rfl (by rfl) (by rfl) (by rfl) hrun ?_)
        go_roundg (7 - (j + 1))
        case measure => have hkk := AA.out; omega
        case rel =>
          refine ⟨j + 1, rfl, by omega, by go_num, hb2, ?_⟩
          rw [sitesTo_some HS.out]
          unfold RowI
          rw [List.length_append, List.map_append]
          exact hO2
    · have hj' : j = 7 := by omega
      subst hj'
      clear hlt
      go_wp2_with fail
      go_ret
      exact ⟨_, rfl, hR, hwr⟩
end Go.Proofs.Ytdphfhenjndkkaa

set_option linter.unusedSimpArgs false
set_option linter.unusedVariables false
set_option maxRecDepth 100000
namespace Go.Proofs.Ytdphfhenjndkkaa
open Go Go.RowKit Go.Sq Go.Wd Go.Arch

theorem grown_setCells {g : Nat} : ∀ (vs : List Value) (o : Nat) (w : World), w.grownBy (w.setCells g o vs) (some g)
  | [], _, w => World.grownBy.refl w _
  | v :: r, o, w => by
    have h1 : w.grownBy (w.setCell ⟨g, o, none⟩ v) (some g) := by (repeat (first | with_reducible apply only_drew | with_reducible refine only_setCell ?_ (by first | exact Or.inl rfl | (right; simp; done) | (right; simp; omega) | (right; omega)) _ | with_reducible refine only_alloc ?_ _ | with_reducible exact World.grownBy.refl _ _ | with_reducible assumption))
    exact only_trans h1 (grown_setCells r (o + 1) (w.setCell ⟨g, o, none⟩ v))

theorem rgvc_one (r : RegS) (sl : SlcE) : ∀ v ∈ rgv r sl, v.oneCell' = true := by simp [rgv, Value.oneCell']

set_option maxHeartbeats 2000000 in
theorem put_any (g k : Nat) (b : BegS) (S : Slots) (sl : Sls) (r : RegS) (s : SlcE) (w : World) (hb : Blk w g 133 (balv b S sl)) (hk : k < 7) (hl : LogAt w w.heap.size s r.log) (h2 : r.log.length ≤ 2000) :
    Calls Try.prog 76 #[.pointer (some ⟨g, 0, none⟩), .int .i64 (k : Int), .agg (rgv r s).toArray] w fun e w' => e = .returned (.tuple #[]) ∧ ∃ s' : SlcE, Blk w' g 133 (balv b (put7 S k r) (upS sl k s')) ∧ Row w' w.heap.size (slw s') r.log ∧ Kept w w' (some g) none := by
  have hz : Below w.heap.size w (w.alloc (.cells (rgv r s).toArray 37)) := (Below.refl _ _).alloc (Nat.le_refl _) _
  have BR := Blk.new w 37 (rgv r s)
  have hg := hb.lt
  have HH := Lib.hid (And.intro hz (And.intro (hb.keep hz) (hl.keep hz)))
  clear hz hb hl
  have hi7 : (k : Int) < 7 := by omega
  have hi0 : (0 : Int) ≤ (k : Int) := by omega
  go_enter Try.func76, Try.ntmps76
  go_wp2_with fail
  refine wp_region_p ([(0, true), (1, true), (2, true), (3, true), (4, true), (6, true), (7, true), (10, true), (11, true), (5, false), (8, true), (9, false), (12, true), (13, false)]) (fun w' => Blk w' w.heap.size 37 (rgv r s)) (by kernel_rfl) rfl (by kernel_rfl) (by kernel_rfl) (BR.drew) rfl ?_
  intro KP RP TP hKP hTP hTP'
  simp only [pick, nth]
  go_wp2_with (first
    | (apply SeqP.skip; rfl; simp only [Act.put, List.setIfInBounds_toArray, List.set_cons_zero, List.set_cons_succ])
    | (apply SeqP.pure; rfl; (intro w2 hw; have hw := hTP _ hw; exact exec_load_blk 37 _ rfl _ rfl _ _ hw _ Try.underlying37 rfl rg_info); simp only [Act.put, List.setIfInBounds_toArray, List.set_cons_zero, List.set_cons_succ])
    | (apply SeqP.call; rfl; rfl; (intro w2 hw; have hw := hTP _ hw; (skip); go_simp; exact ⟨rfl, rfl⟩); (intro w2 hw; have hw := hTP _ hw; (skip); (first | fail)); simp only [Act.put, List.setIfInBounds_toArray, List.set_cons_zero, List.set_cons_succ])
    | (apply SeqP.pure; rfl; (intro w2 hw; have hw := hTP _ hw; (skip); go_simp; with_reducible rfl); simp only [Act.put, List.setIfInBounds_toArray, List.set_cons_zero, List.set_cons_succ])
    | (apply SeqP.split; rfl; rfl; all_goals (intro hc; simp only [hc]; try simp only [beq_iff_eq, decide_eq_true_eq, beq_eq_false_iff_ne, decide_eq_false_iff_not, bne_iff_ne, ne_eq, Bool.not_eq_true', Bool.not_eq_false', Int.not_le, Int.not_lt, bne_eq_false_iff_eq, Bool.or_eq_true, Bool.and_eq_true, Bool.or_eq_false_iff] at hc)))
  apply SeqP.eff
  · rfl
  intro KE hKE
  go_wp2_with fail
  refine (regclone_any r s _ (HH.out.2.2.keep (Below.refl _ _).drew) h2).mono ?_
  rintro e w1 ⟨s', rfl, hR, hb⟩
  have hbz := Below.drew (HH.out.1)
  have hw1 := below_trans hbz hb hbz.size
  have B1 := HH.out.2.1.drew.keep hb
  have R1 := BR.drew.keep hb
  have hR1 := hR.base (B' := w.heap.size) (by simp)
  refine hKE _ _ (hTP' _ R1) ?_
  clear hKE hb hR BR HH hbz
  have hc := B1.cell (5 + k)
  rw [balv_had b S sl hk] at hc
  have fr := B1.frozen
  go_wp2_with (first
    | (apply SeqP.skip; rfl; simp only [Act.put, List.setIfInBounds_toArray, List.set_cons_zero, List.set_cons_succ])
    | (apply SeqP.call; rfl; rfl; (intro w2 hw; have hw := hTP _ hw; (skip); go_simp; exact ⟨rfl, rfl⟩); (intro w2 hw; have hw := hTP _ hw; (skip); (first | fail)); simp only [Act.put, List.setIfInBounds_toArray, List.set_cons_zero, List.set_cons_succ])
    | (apply SeqP.pure; rfl; (intro w2 hw; have hw := hTP _ hw; (skip); go_simp; with_reducible rfl); simp only [Act.put, List.setIfInBounds_toArray, List.set_cons_zero, List.set_cons_succ])
    | (apply SeqP.split; rfl; rfl; all_goals (intro hc; simp only [hc]; try simp only [beq_iff_eq, decide_eq_true_eq, beq_eq_false_iff_ne, decide_eq_false_iff_not, bne_iff_ne, ne_eq, Bool.not_eq_true', Bool.not_eq_false', Int.not_le, Int.not_lt, bne_eq_false_iff_eq, Bool.or_eq_true, Bool.and_eq_true, Bool.or_eq_false_iff] at hc)))
  apply SeqP.eff
  · rfl
  intro KE hKE
  go_wp2_with fail
  have hne : w.heap.size ≠ g := by omega
  have B2 := B1.set (5 + k) (.bool true)
  have R2 : Blk (w1.setCell ⟨g, 5 + k, none⟩ (.bool true)) w.heap.size 37 (rgv r s) := R1.far (p := ⟨g, 5 + k, none⟩) hne _
  have g2 : w1.grownBy (w1.setCell ⟨g, 5 + k, none⟩ (.bool true)) (some g) := by (repeat (first | with_reducible apply only_drew | with_reducible refine only_setCell ?_ (by first | exact Or.inl rfl | (right; simp; done) | (right; simp; omega) | (right; omega)) _ | with_reducible refine only_alloc ?_ _ | with_reducible exact World.grownBy.refl _ _ | with_reducible assumption))
  refine hKE _ _ (hTP' _ R2) ?_
  clear hKE
  go_wp2_with (first
    | (apply SeqP.skip; rfl; simp only [Act.put, List.setIfInBounds_toArray, List.set_cons_zero, List.set_cons_succ])
    | (apply SeqP.call; rfl; rfl; (intro w2 hw; have hw := hTP _ hw; (skip); go_simp; exact ⟨rfl, rfl⟩); (intro w2 hw; have hw := hTP _ hw; (skip); (first | fail)); simp only [Act.put, List.setIfInBounds_toArray, List.set_cons_zero, List.set_cons_succ])
    | (apply SeqP.pure; rfl; (intro w2 hw; have hw := hTP _ hw; (skip); go_simp; with_reducible rfl); simp only [Act.put, List.setIfInBounds_toArray, List.set_cons_zero, List.set_cons_succ])
    | (apply SeqP.split; rfl; rfl; all_goals (intro hc; simp only [hc]; try simp only [beq_iff_eq, decide_eq_true_eq, beq_eq_false_iff_ne, decide_eq_false_iff_not, bne_iff_ne, ne_eq, Bool.not_eq_true', Bool.not_eq_false', Int.not_le, Int.not_lt, bne_eq_false_iff_eq, Bool.or_eq_true, Bool.and_eq_true, Bool.or_eq_false_iff] at hc)))
  apply SeqP.eff
  · rfl
  intro KE hKE
  have B3 := B2.setCells (rgv r s') (12 + k * 4)
  have R3 := R2.setCellsFar hne (rgv r s') (12 + k * 4)
  have g3 := only_trans g2 (grown_setCells (rgv r s') (12 + k * 4) (w1.setCell ⟨g, 5 + k, none⟩ (.bool true)))
  rw [balv_put b S sl hk r s'] at B3
  have hth : (w1.setCell ⟨g, 5 + k, none⟩ (.bool true)).there g (12 + k * 4) (rgv r s').toArray.size := fun j hj => ⟨by
    have hj : j < 4 := hj
    rw [B2.cell, List.getElem?_eq_getElem (by rw [List.length_set, balv_len]; omega)]
    rfl, B2.frozen _⟩
  refine wp_store_mid 37 _ _ rfl g (12 + k * 4) (rgv r s').toArray rfl rfl hth rg_info (all_oneCell_toArray (rgvc_one r s')) ?_
  generalize ((w1.setCell ⟨g, 5 + k, none⟩ (.bool true)).setCells g (12 + k * 4) (rgv r s').toArray.toList) = w3 at *
  refine hKE _ _ (hTP' _ R3) ?_
  clear hKE
  apply SeqP.nil
  refine hKP _ _ (hTP' _ (R3)) ?_
  clear hKP hTP hTP'
  go_wp2_with fail
  refine bodyPost_end (results_none rfl _ _ _) rfl ?_
  refine ⟨rfl, s'.1, s'.2.1, s'.2.2, B3, ?_, (Kept.ofBelow hw1 _ _).trans (Kept.ofGrown g3)⟩
  exact own_beside hR1 g3 (blk_not B1 (by decide))
end Go.Proofs.Ytdphfhenjndkkaa

set_option linter.unusedSimpArgs false
set_option linter.unusedVariables false
set_option maxRecDepth 100000
namespace Go.Proofs.Ytdphfhenjndkkaa
open Go Go.RowKit Go.Sq Go.Wd Go.Arch

theorem bal_fresh (b : BegS) : balv b no7 (fun _ => no0) = [.int .i64 b.stream, .int .i64 b.epoch, .int .i64 b.site, .int .i64 b.n, .int .i64 b.stamp, .bool false, .bool false, .bool false, .bool false, .bool false, .bool false, .bool false,
    .int .i64 0, .int .i64 0, .slice none 0 0, .int .i64 0, .int .i64 0, .int .i64 0, .slice none 0 0, .int .i64 0, .int .i64 0, .int .i64 0, .slice none 0 0, .int .i64 0, .int .i64 0, .int .i64 0, .slice none 0 0, .int .i64 0,
    .int .i64 0, .int .i64 0, .slice none 0 0, .int .i64 0, .int .i64 0, .int .i64 0, .slice none 0 0, .int .i64 0, .int .i64 0, .int .i64 0, .slice none 0 0, .int .i64 0] := rfl
theorem of_in {e n s : Int} (hn : sitesE n = true) (h0 : 0 ≤ s) (h : ofE e n = s) : s < n := by
  unfold ofE at h
  split at h
  · rcases sites_cases hn with rfl | rfl | rfl | rfl | rfl | rfl <;> omega
  · omega
def NewPost (b : BegS) (own : RegS) (w : World) (e : Ending) (w' : World) : Prop :=
  (newOk b own ∧ ∃ g, e = .returned (.tuple #[.pointer (some ⟨g, 0, none⟩), .int .i64 0]) ∧ w.heap.size ≤ g ∧ BalAt w' w.heap.size g b (put7 no7 b.site.toNat own) ∧ Below w.heap.size w w') ∨
  (¬ newOk b own ∧ e = .returned (.tuple #[.pointer none, .int .i64 2]) ∧ Below w.heap.size w w')

set_option maxHeartbeats 4000000 in
theorem new_any (b : BegS) (own : RegS) (s : SlcE) (w : World) (hl : LogAt w w.heap.size s own.log) (h2 : own.log.length ≤ 2000) :
    Calls Try.prog 50 #[.int .i64 b.stream, .int .i64 b.epoch, .int .i64 b.site, .int .i64 b.n, .int .i64 b.stamp, .agg (rgv own s).toArray] w fun e w' => NewPost b own w e w' := by
  have hz : Below w.heap.size w (w.alloc (.cells (rgv own s).toArray 37)) := (Below.refl _ _).alloc (Nat.le_refl _) _
  have BR := Blk.new w 37 (rgv own s)
  have HL := Lib.hid (And.intro (hl.keep hz) hz)
  have FC : ∀ w', Below w.heap.size w w' ∧ Blk w' w.heap.size 37 (rgv own s) → w'.cell? ⟨w.heap.size, 0, none⟩ = some (.int .i64 own.prom) ∧ w'.cell? ⟨w.heap.size, 1, none⟩ = some (.int .i64 own.view) := fun w' h => ⟨h.2.cell 0, h.2.cell 1⟩
  clear hl
  by_cases hok : newOk b own
  case pos =>
    have HO := Lib.hid hok
    obtain ⟨g1, g2, g3, g4, g5, g6, g7, g8, g9⟩ := hok
    have hs7 := of_in g3 g4 g5
    unfold sitesE at g3
    simp only [decide_eq_true_eq] at g3
    have f1 : ¬ b.stream < 0 := by omega
    have f2 : ¬ (4 : Int) ≤ b.stream := by omega
    have f3 : ¬ b.n < 2 := by omega
    have f4 : ¬ (7 : Int) < b.n := by omega
    have f5 : ¬ b.site < 0 := by omega
    have f6 : (ofE b.epoch b.n != b.site) = false := by simpa using g5
    have f7 : ¬ (1048576 : Int) < b.epoch := by omega
    have f7' : decide ((1048576 : Int) < b.epoch) = false := by simpa using f7
    have f8 : (own.prom != b.epoch) = false := by simpa using g8
    have f9 : ¬ b.epoch ≤ own.view := by omega
    have HG := Lib.hid (And.intro g5 (And.intro g8 g7))
    clear g5 g8 g7
    go_enter Try.func50, Try.ntmps50
    go_wp2_with fail
    refine (of_any _ _ _).mono ?_
    rintro e w1 ⟨rfl, rfl⟩
    go_wp2_with ((with_reducible refine at_list ?_); first | refine wpList_load_blk_g 37 _ rfl rfl _ rfl _ _ _ (BR) Try.underlying37 rfl rg_info ?_)
    refine (check15_any own s _ HL.out.1).mono ?_
    rintro e w2 ⟨rfl, hb⟩
    rw [HG.out.2.2]
    have hw2 := below_trans HL.out.2 hb HL.out.2.size
    have R2 := BR.keep hb
    have L2 := HL.out.1.keep hb
    obtain ⟨q0, q1⟩ := FC w2 ⟨hw2, R2⟩
    have hsz := hw2.size
    have HX := Lib.hid (And.intro hw2 (And.intro R2 L2))
    have hlt := R2.lt
    clear hb FC HL BR hw2 L2
    have R3 := R2.alloc (.cells (balv b no7 (fun _ => no0)).toArray 133)
    rw [bal_fresh] at R3
    clear R2
    go_wp2_with ((with_reducible refine at_list ?_); first | refine wpList_load_blk rfl 37 _ rfl _ rfl _ _ _ (R3) Try.underlying37 rfl rg_info ?_)
    have hwA := HX.out.1.alloc hsz (.cells (balv b no7 (fun _ => no0)).toArray 133)
    have hp := put_any w2.heap.size b.site.toNat b no7 (fun _ => no0) own s (w2.alloc (.cells (balv b no7 (fun _ => no0)).toArray 133)) (Blk.new w2 _ _) (by omega)
      (HX.out.2.2.keep ((Below.refl _ _).alloc (Nat.le_refl _) _)) h2
    rw [show ((b.site.toNat : Nat) : Int) = b.site by omega] at hp
    rw [bal_fresh] at hp hwA
    refine hp.mono ?_
    clear hp
    rintro e w3 ⟨rfl, s', hB3, hR3, hK3⟩
    have hw3 := hwA.trans (hK3.below (B := w.heap.size) (fun k e => by cases e; omega) (fun k e => by cases e) (by simp; omega))
    have HF := Lib.hid (And.intro hB3 (And.intro hR3 hw3))
    clear hB3 hR3 hw3 hwA hK3 R3
    go_wp2_with fail
    go_ret2
    refine .inl ⟨HO.out, _, rfl, hsz, ⟨_, HF.out.1, fun i hi => ?_⟩, HF.out.2.2⟩
    by_cases hik : i = b.site.toNat
    · subst hik
      rw [upS_at, regOf_at]
      exact HF.out.2.1.base (by simp; omega)
    · rw [upS_far _ _ hik, regOf_far _ _ hik]
      exact Row.nil _ _
  case neg =>
    have HO := Lib.hid hok
    clear hok
    by_cases c1 : b.stream < 0
    · go_enter Try.func50, Try.ntmps50
      go_wp2_with fail
      go_ret2
      exact .inr ⟨HO.out, rfl, hz⟩
    by_cases c2 : (4 : Int) ≤ b.stream
    · go_enter Try.func50, Try.ntmps50
      go_wp2_with fail
      go_ret2
      exact .inr ⟨HO.out, rfl, hz⟩
    by_cases c3 : b.n < 2
    · go_enter Try.func50, Try.ntmps50
      go_wp2_with fail
      go_ret2
      exact .inr ⟨HO.out, rfl, hz⟩
    by_cases c4 : (7 : Int) < b.n
    · go_enter Try.func50, Try.ntmps50
      go_wp2_with fail
      go_ret2
      exact .inr ⟨HO.out, rfl, hz⟩
    by_cases c5 : b.site < 0
    · go_enter Try.func50, Try.ntmps50
      go_wp2_with fail
      go_ret2
      exact .inr ⟨HO.out, rfl, hz⟩
    have hs : sitesE b.n = true := by
      unfold sitesE
      simp only [decide_eq_true_eq]
      omega
    by_cases c6 : ofE b.epoch b.n = b.site
    case neg =>
      have f6 : (ofE b.epoch b.n != b.site) = true := by simpa using c6
      clear c6
      go_enter Try.func50, Try.ntmps50
      go_wp2_with fail
      refine (of_any _ _ _).mono ?_
      rintro e w1 ⟨rfl, rfl⟩
      go_wp2_with fail
      go_ret2
      exact .inr ⟨HO.out, rfl, hz⟩
    have c7 : ¬ (1048576 : Int) < b.epoch := by
      intro h
      unfold ofE at c6
      rw [if_neg (by omega)] at c6
      omega
    have f7' : decide ((1048576 : Int) < b.epoch) = false := by simpa using c7
    have f6 : (ofE b.epoch b.n != b.site) = false := by simpa using c6
    cases hm : mayR own with
    | false =>
      have HM := Lib.hid hm
      clear hm c6 hs
      go_enter Try.func50, Try.ntmps50
      go_wp2_with fail
      refine (of_any _ _ _).mono ?_
      rintro e w1 ⟨rfl, rfl⟩
      go_wp2_with ((with_reducible refine at_list ?_); first | refine wpList_load_blk_g 37 _ rfl rfl _ rfl _ _ _ (BR) Try.underlying37 rfl rg_info ?_)
      refine (check15_any own s _ HL.out.1).mono ?_
      rintro e w2 ⟨rfl, hb⟩
      rw [HM.out]
      have hw2 := below_trans HL.out.2 hb HL.out.2.size
      have R2 := BR.keep hb
      obtain ⟨q0, q1⟩ := FC w2 ⟨hw2, R2⟩
      clear hb FC HL BR
      go_wp2_with fail
      go_ret2
      exact .inr ⟨HO.out, rfl, hw2⟩
    | true =>
      have HM := Lib.hid hm
      by_cases c8 : own.prom = b.epoch
      case neg =>
        have f8 : (own.prom != b.epoch) = true := by simpa using c8
        clear hm c6 hs c8
        go_enter Try.func50, Try.ntmps50
        go_wp2_with fail
        refine (of_any _ _ _).mono ?_
        rintro e w1 ⟨rfl, rfl⟩
        go_wp2_with ((with_reducible refine at_list ?_); first | refine wpList_load_blk_g 37 _ rfl rfl _ rfl _ _ _ (BR) Try.underlying37 rfl rg_info ?_)
        refine (check15_any own s _ HL.out.1).mono ?_
        rintro e w2 ⟨rfl, hb⟩
        rw [HM.out]
        have hw2 := below_trans HL.out.2 hb HL.out.2.size
        have R2 := BR.keep hb
        obtain ⟨q0, q1⟩ := FC w2 ⟨hw2, R2⟩
        clear hb FC HL BR
        go_wp2_with fail
        go_ret2
        exact .inr ⟨HO.out, rfl, hw2⟩
      have c9 : b.epoch ≤ own.view := by
        by_cases h : b.epoch ≤ own.view
        · exact h
        · exact absurd ⟨by omega, by omega, hs, by omega, c6, by omega, hm, c8, by omega⟩ HO.out
      have f8 : (own.prom != b.epoch) = false := by simpa using c8
      clear hm c6 hs c8
      go_enter Try.func50, Try.ntmps50
      go_wp2_with fail
      refine (of_any _ _ _).mono ?_
      rintro e w1 ⟨rfl, rfl⟩
      go_wp2_with ((with_reducible refine at_list ?_); first | refine wpList_load_blk_g 37 _ rfl rfl _ rfl _ _ _ (BR) Try.underlying37 rfl rg_info ?_)
      refine (check15_any own s _ HL.out.1).mono ?_
      rintro e w2 ⟨rfl, hb⟩
      rw [HM.out]
      have hw2 := below_trans HL.out.2 hb HL.out.2.size
      have R2 := BR.keep hb
      obtain ⟨q0, q1⟩ := FC w2 ⟨hw2, R2⟩
      clear hb FC HL BR
      go_wp2_with fail
      go_ret2
      exact .inr ⟨HO.out, rfl, hw2⟩
end Go.Proofs.Ytdphfhenjndkkaa

set_option linter.unusedSimpArgs false
set_option linter.unusedVariables false
set_option maxRecDepth 100000
namespace Go.Proofs.Ytdphfhenjndkkaa
open Go Go.RowKit Go.Sq Go.Wd Go.Arch

structure MailV where
  m : MailS
  es : SlcE
  o : Int × Int × Int × Int × Int
  an : Int × Int × Int
def mailv (x : MailV) : List Value := [.int .i64 x.m.kind, .int .i64 x.m.from_, .int .i64 x.m.to, .int .i64 x.m.stream, .int .i64 x.m.epoch, .int .i64 x.m.view, .int .i64 x.m.base, .int .i64 x.m.len, .int .i64 x.m.stamp,
  .slice x.es.1 x.es.2.1 x.es.2.2, .int .i64 x.o.1, .int .i64 x.o.2.1, .int .i64 x.o.2.2.1, .int .i64 x.o.2.2.2.1, .int .i64 x.o.2.2.2.2, .int .i64 x.an.1, .int .i64 x.an.2.1, .int .i64 x.an.2.2]
theorem mail_len (x : MailV) : (mailv x).length = 18 := rfl
theorem mail_one (x : MailV) : ∀ v ∈ mailv x, v.oneCell' = true := fun v hv => by
  simp only [mailv, List.mem_cons, List.not_mem_nil, or_false] at hv
  rcases hv with rfl | rfl | rfl | rfl | rfl | rfl | rfl | rfl | rfl | rfl | rfl | rfl | rfl | rfl | rfl | rfl | rfl | rfl <;> rfl
def mailE : Gr.Enc Try.prog MailV where
  elem := 43
  slice := 22
  size := 18
  bytes := 160
  zero := .agg #[.int .i64 0, .int .i64 0, .int .i64 0, .int .i64 0, .int .i64 0, .int .i64 0, .int .i64 0, .int .i64 0, .int .i64 0, .slice none 0 0, .int .i64 0, .int .i64 0, .int .i64 0, .int .i64 0, .int .i64 0, .int .i64 0, .int .i64 0, .int .i64 0]
  enc := mailv
  len := mail_len
  one := mail_one
  pos := by omega
  und := Try.underlying22
  info := by kernel_rfl
  zs := rfl
  few := by omega
theorem mail_info : (Try.prog.info? 43).map (·.size) = some 18 := by kernel_rfl
/-- A slice of mail: each piece, and its entries. -/
def Mails (w : World) (B : Nat) (A : Option Addr) (l : List MailV) : Prop := Gr.Sl mailE w B A l ∧ ∀ x ∈ l, LogAt w B x.es x.m.ents
section
variable {w w' : World} {B B' : Nat} {A : Option Addr} {l : List MailV}
theorem Mails.below (h : Mails w B A l) (hb : Below B w w') : Mails w' B A l := ⟨h.1.below hb, fun x hx => (h.2 x hx).below hb⟩
theorem Mails.more (h : Mails w B A l) (hB : B ≤ B') : Mails w B' A l := ⟨h.1.more hB, fun x hx => (h.2 x hx).more hB⟩
theorem Mails.keep (h : Mails w w.heap.size A l) (hb : Below w.heap.size w w') : Mails w' w'.heap.size A l := (h.below hb).more hb.size
theorem Mails.nil : Mails w B A [] := ⟨Gr.Sl.nil, by simp⟩
/-- The k-th piece of mail. -/
theorem Mails.at_ (h : Mails w B A l) {k : Nat} (hk : k < l.length) : ∃ b off x, A = some ⟨b, off, none⟩ ∧ Hid (l[k]? = some x) ∧ b < B ∧ (∀ w', Below B w w' → ∀ j, j < 18 → w'.cell? ⟨b, off + k * 18 + j, none⟩ = (mailv x)[j]?) ∧ Hid (LogAt w B x.es x.m.ents) := by
  obtain ⟨b, off, e, ha, he, hb, hc⟩ := h.1.at_ hk
  exact ⟨b, off, e, ha, he, hb, fun w' hw j hj => hc w' hw j hj, Lib.hid (h.2 e (List.mem_of_getElem? he.out))⟩
end
end Go.Proofs.Ytdphfhenjndkkaa
