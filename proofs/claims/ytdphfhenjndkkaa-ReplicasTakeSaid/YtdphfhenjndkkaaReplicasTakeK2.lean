/-
  What a register is, and what becomes of it by a record, in plain Lean.
  Loads and stores of a block that is known whole.
  Records, and a slice of them, read as a list.
  Rows of entries, and append([]api.Entry{}, l...).
  Entries appended to a slice that is full: what it held is copied, or nothing comes.
  The walks over 'orders.fields' and 'orders.Check'.
  Loads and stores of a part of a block that is known whole.
  The walks over 'register.whole', 'Check', the document's 'log' and 'Check'.
  The walks over 'slices.Clone' of entries, and 'register.Clone'.
  The walk over 'register.viewed'.
  A region that draws its order, by a schedule that parts in two: where either of two operations may come next.
-/
import Derived.Laws.CopyOwn
import Derived.ArgAppend
import Derived.Deep.Upon
import Derived.Test.YtdphfhenjndkkaaProg
import Derived.WalkKit
import Derived.WalkSpells
import Derived.WalkLawsBesides
import Derived.RowKit3
import Derived.Lib.Hide
import Derived.Deep.MidRow
import Derived.Laws.StructEq
import Derived.Test.YtdphfhenjndkkaaReplicasTakeK1
set_option linter.unusedSimpArgs false
set_option linter.unusedVariables false
set_option maxRecDepth 100000
namespace Go.Proofs.Ytdphfhenjndkkaa
open Go Go.Arch

structure RegS where
  prom : Int
  view : Int
  log : List Ent
  com : Int
structure RecS where
  kind : Int
  stream : Int
  epoch : Int
  view : Int
  from_ : Int
  len : Int
  ents : List Ent
def ordE (e : Ent) : Ord := ⟨e.2.1, e.2.2.1, e.2.2.2.1, e.2.2.2.2.1, e.2.2.2.2.2⟩
def okEnt (v : Int) (e : Ent) : Bool := decide (1 ≤ e.1 ∧ e.1 ≤ v) && ordOk (ordE e)
def okLog (l : List Ent) (v : Int) : Bool := decide (l.length ≤ 64) && (l.all (okEnt v) && risesB l)
def mayR (r : RegS) : Bool := decide (0 ≤ r.view ∧ r.view ≤ r.prom ∧ r.prom ≤ 1048576) && (okLog r.log r.view && decide (0 ≤ r.com ∧ r.com ≤ r.log.length))
def fromR (r : RegS) (x : RecS) : Nat := if x.epoch = r.view then r.log.length else 0
def logR (r : RegS) (x : RecS) : List Ent := r.log.take (fromR r x) ++ x.ents
def viewR (r : RegS) (x : RecS) : Option RegS :=
  if (1 ≤ x.epoch ∧ r.prom ≤ x.epoch ∧ x.epoch ≤ 1048576 ∧ x.from_ = fromR r x) ∧ okLog (logR r x) x.epoch = true ∧ r.log.take r.com.toNat <+: logR r x then some ⟨x.epoch, x.epoch, logR r x, r.com⟩ else none
def applyR (r : RegS) (x : RecS) : Option RegS :=
  if mayR r = true then
    if x.kind = 1 then (if r.prom < x.epoch ∧ x.epoch ≤ 1048576 then some { r with prom := x.epoch } else none)
    else if x.kind = 2 then viewR r x
    else if x.kind = 3 then (if r.com < x.len ∧ x.len ≤ r.log.length then some { r with com := x.len } else none)
    else if x.kind = 4 then (if r.prom = 0 ∧ mayR ⟨x.epoch, x.view, x.ents, x.len⟩ = true then some ⟨x.epoch, x.view, x.ents, x.len⟩ else none)
    else none
  else none
def reg0 : RegS := ⟨0, 0, [], 0⟩
/-- What is told: a register, and whether. -/
def regR (o : Option RegS) : RegS × Bool := match o with | some r => (r, true) | none => (reg0, false)

theorem mayR_iff (r : RegS) : mayR r = true ↔ (0 ≤ r.view ∧ r.view ≤ r.prom ∧ r.prom ≤ 1048576) ∧ okLog r.log r.view = true ∧ 0 ≤ r.com ∧ r.com ≤ r.log.length := by
  unfold mayR; simp only [Bool.and_eq_true, decide_eq_true_eq]
theorem okLog_iff (l : List Ent) (v : Int) : okLog l v = true ↔ l.length ≤ 64 ∧ (∀ e ∈ l, okEnt v e = true) ∧ risesB l = true := by
  unfold okLog; simp only [Bool.and_eq_true, decide_eq_true_eq, List.all_eq_true]
theorem okLog_zero {l : List Ent} (h : okLog l 0 = true) : l = [] := by
  cases l with
  | nil => rfl
  | cons a l =>
    have h1 := ((okLog_iff _ _).1 h).2.1 a (by simp)
    unfold okEnt at h1
    simp only [Bool.and_eq_true, decide_eq_true_eq] at h1
    omega
theorem may_zero {r : RegS} (h : mayR r = true) (h0 : r.prom = 0) : r.view = 0 ∧ r.log = [] ∧ r.com = 0 := by
  obtain ⟨⟨h1, h2, h3⟩, h4, h5, h6⟩ := (mayR_iff r).1 h
  have hv : r.view = 0 := by omega
  rw [hv] at h4
  have hl := okLog_zero h4
  rw [hl] at h6
  exact ⟨hv, hl, by simp at h6; omega⟩
theorem may_reg0 : mayR reg0 = true := by decide

theorem apply_may {r a : RegS} {x : RecS} (h : applyR r x = some a) : mayR r = true := by
  unfold applyR at h
  split at h
  · assumption
  · cases h
theorem apply_cases {r a : RegS} {x : RecS} (h : applyR r x = some a) :
    (x.kind = 1 ∧ r.prom < x.epoch ∧ x.epoch ≤ 1048576 ∧ a = { r with prom := x.epoch }) ∨
    (x.kind = 2 ∧ (1 ≤ x.epoch ∧ r.prom ≤ x.epoch ∧ x.epoch ≤ 1048576 ∧ x.from_ = fromR r x) ∧ okLog (logR r x) x.epoch = true ∧ r.log.take r.com.toNat <+: logR r x ∧ a = ⟨x.epoch, x.epoch, logR r x, r.com⟩) ∨
    (x.kind = 3 ∧ r.com < x.len ∧ x.len ≤ r.log.length ∧ a = { r with com := x.len }) ∨
    (x.kind = 4 ∧ r.prom = 0 ∧ mayR ⟨x.epoch, x.view, x.ents, x.len⟩ = true ∧ a = ⟨x.epoch, x.view, x.ents, x.len⟩) := by
  have hm := apply_may h
  unfold applyR at h
  rw [if_pos hm] at h
  by_cases k1 : x.kind = 1
  · rw [if_pos k1] at h
    split at h
    · rename_i hc
      cases h
      exact .inl ⟨k1, hc.1, hc.2, rfl⟩
    · cases h
  rw [if_neg k1] at h
  by_cases k2 : x.kind = 2
  · rw [if_pos k2] at h
    unfold viewR at h
    split at h
    · rename_i hc
      cases h
      exact .inr (.inl ⟨k2, hc.1, hc.2.1, hc.2.2, rfl⟩)
    · cases h
  rw [if_neg k2] at h
  by_cases k3 : x.kind = 3
  · rw [if_pos k3] at h
    split at h
    · rename_i hc
      cases h
      exact .inr (.inr (.inl ⟨k3, hc.1, hc.2, rfl⟩))
    · cases h
  rw [if_neg k3] at h
  by_cases k4 : x.kind = 4
  · rw [if_pos k4] at h
    split at h
    · rename_i hc
      cases h
      exact .inr (.inr (.inr ⟨k4, hc.1, hc.2, rfl⟩))
    · cases h
  rw [if_neg k4] at h
  cases h

/-- How much of a log must stay. -/
def keepsR (r a : RegS) : Nat := if a.view = r.view then r.log.length else r.com.toNat
theorem apply_stays {r a : RegS} {x : RecS} (h : applyR r x = some a) :
    mayR a = true ∧ r.prom ≤ a.prom ∧ r.view ≤ a.view ∧ r.com ≤ a.com ∧ keepsR r a ≤ a.log.length ∧ a.log.take (keepsR r a) = r.log.take (keepsR r a) := by
  have hm := apply_may h
  obtain ⟨⟨m1, m2, m3⟩, m4, m5, m6⟩ := (mayR_iff r).1 hm
  rcases apply_cases h with ⟨_, h1, h2, rfl⟩ | ⟨_, ⟨h1, h2, h3, h4⟩, h5, h6, rfl⟩ | ⟨_, h1, h2, rfl⟩ | ⟨_, h1, h2, rfl⟩
  · refine ⟨(mayR_iff _).2 ⟨⟨m1, by show r.view ≤ x.epoch; omega, h2⟩, m4, m5, m6⟩, by show r.prom ≤ x.epoch; omega, Int.le_refl _, Int.le_refl _, ?_, rfl⟩
    unfold keepsR; rw [if_pos rfl]; exact Nat.le_refl _
  · have hlen := h6.length_le
    rw [List.length_take, Nat.min_eq_left (by omega)] at hlen
    refine ⟨(mayR_iff _).2 ⟨⟨by show 0 ≤ x.epoch; omega, Int.le_refl _, h3⟩, h5, m5, by show r.com ≤ ((logR r x).length : Int); omega⟩, h2, by show r.view ≤ x.epoch; omega, Int.le_refl _, ?_⟩
    unfold keepsR
    show (if x.epoch = r.view then r.log.length else r.com.toNat) ≤ (logR r x).length ∧ (logR r x).take (if x.epoch = r.view then r.log.length else r.com.toNat) = r.log.take (if x.epoch = r.view then r.log.length else r.com.toNat)
    by_cases he : x.epoch = r.view
    · rw [if_pos he]
      unfold logR fromR
      rw [if_pos he, List.take_length]
      exact ⟨by simp, by simp⟩
    · rw [if_neg he]
      refine ⟨hlen, ?_⟩
      have := List.prefix_iff_eq_take.1 h6
      rw [List.length_take, Nat.min_eq_left (by omega)] at this
      exact this.symm
  · refine ⟨(mayR_iff _).2 ⟨⟨m1, m2, m3⟩, m4, by show 0 ≤ x.len; omega, h2⟩, Int.le_refl _, Int.le_refl _, by show r.com ≤ x.len; omega, ?_, rfl⟩
    unfold keepsR; rw [if_pos rfl]; exact Nat.le_refl _
  · obtain ⟨z1, z2, z3⟩ := may_zero hm h1
    obtain ⟨⟨n1, n2, n3⟩, n4, n5, n6⟩ := (mayR_iff _).1 h2
    dsimp only at n1 n2 n3 n5 n6
    refine ⟨h2, by show r.prom ≤ x.epoch; omega, by show r.view ≤ x.view; omega, by show r.com ≤ x.len; omega, ?_⟩
    have hk : keepsR r ⟨x.epoch, x.view, x.ents, x.len⟩ = 0 := by
      unfold keepsR
      split
      · rw [z2]; rfl
      · rw [z3]; rfl
    rw [hk]
    exact ⟨Nat.zero_le _, rfl⟩
theorem apply_twice {r a b : RegS} {x : RecS} (h : applyR r x = some a) (h' : applyR a x = some b) : b = a := by
  rcases apply_cases h with ⟨k, h1, h2, rfl⟩ | ⟨k, ⟨h1, h2, h3, h4⟩, h5, h6, rfl⟩ | ⟨k, h1, h2, rfl⟩ | ⟨k, h1, h2, rfl⟩
  · rcases apply_cases h' with ⟨_, g1, _⟩ | ⟨k', _⟩ | ⟨k', _⟩ | ⟨k', _⟩
    · have : x.epoch < x.epoch := g1
      omega
    all_goals (rw [k] at k'; exact absurd k' (by decide))
  · rcases apply_cases h' with ⟨k', _⟩ | ⟨_, ⟨g1, g2, g3, g4⟩, g5, g6, rfl⟩ | ⟨k', _⟩ | ⟨k', _⟩
    · rw [k] at k'; exact absurd k' (by decide)
    · have hf : fromR ⟨x.epoch, x.epoch, logR r x, r.com⟩ x = (logR r x).length := by unfold fromR; rw [if_pos rfl]
      rw [hf] at g4
      rw [g4] at h4
      have he : x.ents = [] := by
        have hlen : (logR r x).length = fromR r x := by omega
        have : (logR r x).length = (r.log.take (fromR r x)).length + x.ents.length := by unfold logR; rw [List.length_append]
        have h7 : (r.log.take (fromR r x)).length = fromR r x := by
          rw [List.length_take, Nat.min_eq_left]
          unfold fromR
          split
          · exact Nat.le_refl _
          · exact Nat.zero_le _
        exact List.eq_nil_of_length_eq_zero (by omega)
      have : logR ⟨x.epoch, x.epoch, logR r x, r.com⟩ x = logR r x := by
        show (logR r x).take (fromR ⟨x.epoch, x.epoch, logR r x, r.com⟩ x) ++ x.ents = logR r x
        rw [hf, he, List.append_nil, List.take_length]
      rw [this]
    all_goals (rw [k] at k'; exact absurd k' (by decide))
  · rcases apply_cases h' with ⟨k', _⟩ | ⟨k', _⟩ | ⟨_, g1, _⟩ | ⟨k', _⟩
    · rw [k] at k'; exact absurd k' (by decide)
    · rw [k] at k'; exact absurd k' (by decide)
    · have : x.len < x.len := g1
      omega
    · rw [k] at k'; exact absurd k' (by decide)
  · rcases apply_cases h' with ⟨k', _⟩ | ⟨k', _⟩ | ⟨k', _⟩ | ⟨_, _, _, rfl⟩
    · rw [k] at k'; exact absurd k' (by decide)
    · rw [k] at k'; exact absurd k' (by decide)
    · rw [k] at k'; exact absurd k' (by decide)
    · rfl
/-- The record that says all of a register. -/
def baseR (s : Int) (r : RegS) : RecS := ⟨4, s, r.prom, r.view, 0, r.com, r.log⟩
theorem base_leads {r : RegS} (h : mayR r = true) (s : Int) : applyR reg0 (baseR s r) = some r := by
  unfold applyR
  rw [if_pos may_reg0, if_neg (by show ¬ (4 : Int) = 1; decide), if_neg (by show ¬ (4 : Int) = 2; decide), if_neg (by show ¬ (4 : Int) = 3; decide), if_pos (show (baseR s r).kind = 4 from rfl), if_pos ⟨rfl, h⟩]
  rfl
theorem base_not {r : RegS} (h : r.prom ≠ 0) (s : Int) : applyR r (baseR s r) = none := by
  unfold applyR
  split
  · rw [if_neg (by show ¬ (4 : Int) = 1; decide), if_neg (by show ¬ (4 : Int) = 2; decide), if_neg (by show ¬ (4 : Int) = 3; decide), if_pos (show (baseR s r).kind = 4 from rfl), if_neg (fun hh => h hh.1)]
  · rfl
theorem okLog_more {l more : List Ent} {v : Int} (h : okLog l v = true) (hm : ∀ e ∈ more, e.1 = v ∧ ordOk (ordE e) = true) (h1 : 1 ≤ v) (hl : l.length + more.length ≤ 64) : okLog (l ++ more) v = true := by
  obtain ⟨a1, a2, a3⟩ := (okLog_iff _ _).1 h
  refine (okLog_iff _ _).2 ⟨by rw [List.length_append]; exact hl, fun e he => ?_, (rises_iff _).2 fun i x y hx hy => ?_⟩
  · rcases List.mem_append.1 he with he | he
    · exact a2 e he
    · obtain ⟨e1, e2⟩ := hm e he
      unfold okEnt
      rw [e2, Bool.and_true, decide_eq_true_eq]
      omega
  · have key : ∀ j z, (l ++ more)[j]? = some z → z.1 ≤ v ∧ (l.length ≤ j → z.1 = v) := fun j z hz => by
      rcases Nat.lt_or_ge j l.length with hj | hj
      · rw [List.getElem?_append_left hj] at hz
        have h2 := a2 z (List.mem_of_getElem? hz)
        unfold okEnt at h2
        simp only [Bool.and_eq_true, decide_eq_true_eq] at h2
        exact ⟨h2.1.2, fun h => absurd h (by omega)⟩
      · rw [List.getElem?_append_right hj] at hz
        have := (hm z (List.mem_of_getElem? hz)).1
        exact ⟨by omega, fun _ => this⟩
    rcases Nat.lt_or_ge (i + 1) l.length with hj | hj
    · rw [List.getElem?_append_left (by omega)] at hx
      rw [List.getElem?_append_left hj] at hy
      exact (rises_iff _).1 a3 i x y hx hy
    · have hy' := (key _ _ hy).2 hj
      have hx' := (key _ _ hx).1
      omega
theorem apply_more {r : RegS} (hm : mayR r = true) (hv : r.view = r.prom) (h1 : 1 ≤ r.view) {p : List Ent} (hp : ∀ e ∈ p, e.1 = r.view ∧ ordOk (ordE e) = true) (hl : r.log.length + p.length ≤ 64) (x : RecS)
    (k1 : x.kind = 2) (k2 : x.epoch = r.view) (k3 : x.from_ = r.log.length) (k4 : x.ents = p) : applyR r x = some { r with log := r.log ++ p } := by
  obtain ⟨⟨m1, m2, m3⟩, m4, m5, m6⟩ := (mayR_iff r).1 hm
  have hf : fromR r x = r.log.length := by unfold fromR; rw [if_pos k2]
  have hL : logR r x = r.log ++ p := by unfold logR; rw [hf, List.take_length, k4]
  unfold applyR
  rw [if_pos hm, if_neg (by rw [k1]; decide), if_pos k1]
  unfold viewR
  rw [hf, hL, k2]
  rw [if_pos ⟨⟨h1, by omega, by omega, k3⟩, okLog_more m4 hp h1 hl, (List.take_prefix _ _).trans (List.prefix_append _ _)⟩]
  rw [hv]
theorem more_may {r : RegS} (hm : mayR r = true) (h1 : 1 ≤ r.view) {p : List Ent} (hp : ∀ e ∈ p, e.1 = r.view ∧ ordOk (ordE e) = true) (hl : r.log.length + p.length ≤ 64) : mayR { r with log := r.log ++ p } = true := by
  obtain ⟨⟨m1, m2, m3⟩, m4, m5, m6⟩ := (mayR_iff r).1 hm
  exact (mayR_iff _).2 ⟨⟨m1, m2, m3⟩, okLog_more m4 hp h1 hl, m5, by show r.com ≤ ((r.log ++ p).length : Int); rw [List.length_append]; omega⟩
end Go.Proofs.Ytdphfhenjndkkaa

set_option linter.unusedSimpArgs false
set_option linter.unusedVariables false
set_option maxRecDepth 100000
namespace Go.Wd
open Go Go.RowKit

theorem Blk.row {w : World} {g : Nat} {t : TypeId} {old : List Value} (h : Blk w g t old) (cs : List Value) : Blk (w.setRow g cs.toArray) g t cs := setRow_heap w g _ _ t _ h
theorem Blk.rowFar {w : World} {g k : Nat} {t : TypeId} {cs : List Value} (h : Blk w k t cs) (hk : k ≠ g) (l : Array Value) : Blk (w.setRow g l) k t cs := (setRow_other w g k l hk).trans h

/-- A walk stops ahead of the operation that writes this slot: 'go_wp2_with (refine cut_at N rfl ?_)', then 'refine Cut.go ?_'. -/
def Cut (p : Prop) : Prop := p
theorem Cut.go {p : Prop} (h : p) : Cut p := h
theorem cut_at {P : Program} {w : World} {ops : Array Oper} {rest : List Oper} {o : Oper} {a : Act} {Q : Exit → Act → World → Prop} (n : Nat) (ho : o.dst = some n) (h : Cut (wpList P ops Q (o :: rest) a w)) : wpList P ops Q (o :: rest) a w := h

/-- A guard: 'with_reducible refine at_list ?_' goes through at a list of operations alone. -/
theorem at_list {P : Program} {w : World} {ops : Array Oper} {rest : List Oper} {o : Oper} {a : Act} {Q : Exit → Act → World → Prop} (h : wpList P ops Q (o :: rest) a w) : wpList P ops Q (o :: rest) a w := h

theorem wpList_load_blk {P : Program} {w : World} {ops : Array Oper} {rest : List Oper} {o : Oper} {a : Act} {Q : Exit → Act → World → Prop} (hgd : o.guard = none) (ty : TypeId) (x : Operand) (ho : o.op = .load ty x)
    (g : Nat) (hx : a.eval x = .pointer (some ⟨g, 0, none⟩)) (t : TypeId) (cs : List Value) (d : TypeDesc) (hg : Blk w g t cs)
    (hu : P.underlying ty = some d) (hd : (match d with | .struct _ | .array _ _ => true | _ => false) = true) (hi : (P.info? ty).map (·.size) = some cs.length)
    (h : wpList P ops Q rest (a.put o.dst (.agg cs.toArray)) w) : wpList P ops Q (o :: rest) a w :=
  wpList_load_row hgd ty x ho g hx t cs.toArray (0, 0) d hg hu hd (by simpa using hi) h

theorem wpList_store_blk {P : Program} {w : World} {ops : Array Oper} {rest : List Oper} {o : Oper} {a : Act} {Q : Exit → Act → World → Prop} (hgd : o.guard = none) (ty : TypeId) (x y : Operand) (ho : o.op = .store ty x y)
    (g : Nat) (cs : List Value) (hx : a.eval x = .pointer (some ⟨g, 0, none⟩)) (hy : a.eval y = .agg cs.toArray) (t : TypeId) (old : List Value) (hg : Blk w g t old)
    (hi : (P.info? ty).map (·.size) = some cs.length) (hold : old.length = cs.length) (h1 : ∀ v ∈ cs, v.oneCell' = true)
    (h : ∀ w', Blk w' g t cs → (∀ B, B ≤ g → Below B w w') → (∀ k T l, k ≠ g → Blk w k T l → Blk w' k T l) → wpList P ops Q rest (a.put o.dst undef) w') : wpList P ops Q (o :: rest) a w :=
  wpList_store_row hgd ty x y ho g cs.toArray hx hy t old.toArray hg (by simpa using hi) (by simpa using hold)
    (Array.all_eq_true_iff_forall_mem.2 (fun v hv => h1 v (by simpa using hv)))
    (h _ (hg.row cs) (fun B hB => below_setRow (Below.refl B w) hB _) (fun k T l hk hb => hb.rowFar hk _))

/-- Results: a struct that lies whole in a block, and a number. -/
theorem results_blk_tmp {P : Program} {fn : Func} {p q : Tmp} {ty : TypeId} (h : fn.results = #[.cell p ty, .tmp q]) (tmps : Array Value) (w : World) (g : Nat) (t : TypeId) (cs : List Value) (d : TypeDesc)
    (hp : tmps.getD p undef = .pointer (some ⟨g, 0, none⟩)) (hg : Blk w g t cs) (hu : P.underlying ty = some d) (hd : (match d with | .struct _ | .array _ _ => true | _ => false) = true) (hi : (P.info? ty).map (·.size) = some cs.length)
    (v : Value) (hv : tmps.getD q undef = v) : (results fn tmps).run P w = .ok (.tuple #[.agg cs.toArray, v]) w := by
  have hp' : tmps[p]?.getD undef = .pointer (some ⟨g, 0, none⟩) := by simpa using hp
  have hv' : tmps[q]?.getD undef = v := by simpa using hv
  simp [results, h, hp', hv', asAddr, run_loadVar_row w g t ty cs.toArray (0, 0) d hg hu hd (by simpa using hi)]
theorem results_blk {P : Program} {fn : Func} {p : Tmp} {ty : TypeId} (h : fn.results = #[.cell p ty]) (tmps : Array Value) (w : World) (g : Nat) (t : TypeId) (cs : List Value) (d : TypeDesc)
    (hp : tmps.getD p undef = .pointer (some ⟨g, 0, none⟩)) (hg : Blk w g t cs) (hu : P.underlying ty = some d) (hd : (match d with | .struct _ | .array _ _ => true | _ => false) = true) (hi : (P.info? ty).map (·.size) = some cs.length) :
    (results fn tmps).run P w = .ok (.agg cs.toArray) w := results_cell_row h tmps w g t cs.toArray (0, 0) d hp hg hu hd (by simpa using hi)
end Go.Wd

set_option linter.unusedSimpArgs false
set_option linter.unusedVariables false
set_option maxRecDepth 100000
namespace Go.Proofs.Ytdphfhenjndkkaa
open Go Go.RowKit Go.Sq Go.Wd Go.Arch

abbrev SlcE := Option Addr × Nat × Nat
structure RecV where
  kind : Int
  stream : Int
  epoch : Int
  view : Int
  from_ : Int
  len : Int
  es : SlcE
  ents : List Ent
  fs : SlcE
def RecV.s (x : RecV) : RecS := ⟨x.kind, x.stream, x.epoch, x.view, x.from_, x.len, x.ents⟩
def rcv (x : RecV) : List Value := [.int .i64 x.kind, .int .i64 x.stream, .int .i64 x.epoch, .int .i64 x.view, .int .i64 x.from_, .int .i64 x.len, .slice x.es.1 x.es.2.1 x.es.2.2, .slice x.fs.1 x.fs.2.1 x.fs.2.2]
/-- A slice of entries holds this log. -/
def LogAt (w : World) (B : Nat) (sl : SlcE) (l : List Ent) : Prop := sl.2.1 = l.length ∧ l.length ≤ sl.2.2 ∧ sl.2.2 ≤ 9223372036854775807 ∧ Ents w B sl.1 l
def RecAt (w : World) (b o : Nat) (x : RecV) : Prop :=
  w.cell? ⟨b, o, none⟩ = some (.int .i64 x.kind) ∧ w.cell? ⟨b, o + 1, none⟩ = some (.int .i64 x.stream) ∧ w.cell? ⟨b, o + 2, none⟩ = some (.int .i64 x.epoch) ∧ w.cell? ⟨b, o + 3, none⟩ = some (.int .i64 x.view) ∧
  w.cell? ⟨b, o + 4, none⟩ = some (.int .i64 x.from_) ∧ w.cell? ⟨b, o + 5, none⟩ = some (.int .i64 x.len) ∧ w.cell? ⟨b, o + 6, none⟩ = some (.slice x.es.1 x.es.2.1 x.es.2.2) ∧ w.cell? ⟨b, o + 7, none⟩ = some (.slice x.fs.1 x.fs.2.1 x.fs.2.2)
def Recs (w : World) (B : Nat) (A : Option Addr) (l : List RecV) : Prop :=
  (∀ x ∈ l, LogAt w B x.es x.ents) ∧ (0 < l.length → ∃ b off, A = some ⟨b, off, none⟩ ∧ b < B ∧ ∀ i x, l[i]? = some x → RecAt w b (off + i * 8) x)

section
variable {w w' : World} {B B' : Nat} {A : Option Addr} {l : List RecV} {sl : SlcE} {es : List Ent}
theorem LogAt.below (h : LogAt w B sl es) (hb : Below B w w') : LogAt w' B sl es := ⟨h.1, h.2.1, h.2.2.1, h.2.2.2.below hb⟩
theorem LogAt.more (h : LogAt w B sl es) (hB : B ≤ B') : LogAt w B' sl es := ⟨h.1, h.2.1, h.2.2.1, h.2.2.2.more hB⟩
theorem LogAt.keep (h : LogAt w w.heap.size sl es) (hb : Below w.heap.size w w') : LogAt w' w'.heap.size sl es := (h.below hb).more hb.size
theorem LogAt.nil : LogAt w B (none, 0, 0) [] := ⟨rfl, Nat.le_refl _, by simp, Ents.nil⟩
theorem RecAt.below {b o : Nat} {x : RecV} (h : RecAt w b o x) (hb : Below B w w') (hB : b < B) : RecAt w' b o x := by
  obtain ⟨h0, h1, h2, h3, h4, h5, h6, h7⟩ := h
  have k : ∀ i v, w.cell? ⟨b, i, none⟩ = some v → w'.cell? ⟨b, i, none⟩ = some v := fun i v h => (hb.cell (p := ⟨b, _, none⟩) hB).trans h
  exact ⟨k _ _ h0, k _ _ h1, k _ _ h2, k _ _ h3, k _ _ h4, k _ _ h5, k _ _ h6, k _ _ h7⟩
theorem Recs.below (h : Recs w B A l) (hb : Below B w w') : Recs w' B A l := ⟨fun x hx => (h.1 x hx).below hb, fun hl => by
  obtain ⟨b, off, ha, hB, hc⟩ := h.2 hl
  exact ⟨b, off, ha, hB, fun i e he => (hc i e he).below hb hB⟩⟩
theorem Recs.more (h : Recs w B A l) (hB : B ≤ B') : Recs w B' A l := ⟨fun x hx => (h.1 x hx).more hB, fun hl => by
  obtain ⟨b, off, ha, hb, hc⟩ := h.2 hl
  exact ⟨b, off, ha, by omega, hc⟩⟩
theorem Recs.at_ (h : Recs w B A l) {k : Nat} (hk : k < l.length) : ∃ b off x, A = some ⟨b, off, none⟩ ∧ Hid (l[k]? = some x) ∧ (∀ w', Below B w w' → RecAt w' b (off + k * 8) x) ∧ Hid (LogAt w B x.es x.ents) := by
  obtain ⟨b, off, ha, hb, hc⟩ := h.2 (by omega)
  exact ⟨b, off, _, ha, Lib.hid (List.getElem?_eq_getElem hk), fun w' hb' => (hc k _ (List.getElem?_eq_getElem hk)).below hb' hb, Lib.hid (h.1 _ (List.getElem_mem hk))⟩
end
/-- A register's cells. -/
def rgv (r : RegS) (sl : SlcE) : List Value := [.int .i64 r.prom, .int .i64 r.view, .slice sl.1 sl.2.1 sl.2.2, .int .i64 r.com]
end Go.Proofs.Ytdphfhenjndkkaa

set_option linter.unusedSimpArgs false
set_option linter.unusedVariables false
set_option maxRecDepth 100000
namespace Go.Proofs.Ytdphfhenjndkkaa
open Go Go.RowKit Go.Sq Go.Wd

theorem ent_info : (Try.prog.info? 64).map (fun i => (i.zero, i.size, i.bytes)) = some (some (.agg #[.int .i64 0, .int .i64 0, .int .i64 0, .int .i64 0, .int .i64 0, .int .i64 0]), 6, 48) := by kernel_rfl

def flat (l : List Ent) : List Value := l.flatMap vals
theorem flat_len (l : List Ent) : (flat l).length = l.length * 6 := by
  induction l with
  | nil => rfl
  | cons a l ih =>
    have e : flat (a :: l) = vals a ++ flat l := rfl
    rw [e, List.length_append, ih]
    simp [vals]
    omega
theorem flat_snoc (l m : List Ent) : flat (l ++ m) = flat l ++ flat m := by simp [flat]
theorem flat_one (e : Ent) : flat [e] = vals e := by simp [flat]
theorem flat_get : ∀ (l : List Ent) (i : Nat) (e : Ent) (k : Nat), l[i]? = some e → k < 6 → (flat l)[i * 6 + k]? = (vals e)[k]?
  | [], i, e, k, h, _ => by simp at h
  | a :: l, 0, e, k, h, hk => by
    simp at h
    subst h
    have e2 : flat (a :: l) = vals a ++ flat l := rfl
    rw [e2, Nat.zero_mul, Nat.zero_add, List.getElem?_append_left (by simpa [vals] using hk)]
  | a :: l, i + 1, e, k, h, hk => by
    have ih := flat_get l i e k (by simpa using h) hk
    have e2 : flat (a :: l) = vals a ++ flat l := rfl
    rw [e2, List.getElem?_append_right (by simp [vals]; omega), ← ih]
    congr 1
    simp [vals]
    omega
theorem flat_one_cell (l : List Ent) : ∀ u ∈ flat l, u.oneCell' = true := by
  intro u hu
  simp only [flat, List.mem_flatMap] at hu
  obtain ⟨e, _, hu⟩ := hu
  simp only [vals, List.mem_cons, List.not_mem_nil, or_false] at hu
  rcases hu with rfl | rfl | rfl | rfl | rfl | rfl <;> rfl

theorem add_off (b o j : Nat) : (⟨b, o, none⟩ : Addr).add j = ⟨b, o + j, none⟩ := by
  unfold Addr.add
  by_cases h : j = 0 <;> simp [h]

/-- Where the cells of such a slice lie. -/
theorem Ents.cells {w : World} {B : Nat} {A : Option Addr} {l : List Ent} (h : Ents w B A l) (h0 : 0 < l.length) : ∃ ad, A = some ad ∧ ∀ j u, (flat l)[j]? = some u → w.cell? (ad.add j) = some u := by
  obtain ⟨b, off, ha, hb, hc⟩ := h h0
  refine ⟨_, ha, fun j u hu => ?_⟩
  have hj : j < l.length * 6 := by
    have := (List.getElem?_eq_some_iff.1 hu).1
    rw [flat_len] at this
    exact this
  obtain ⟨i, k, hk, rfl⟩ : ∃ i k, k < 6 ∧ j = i * 6 + k := ⟨j / 6, j % 6, Nat.mod_lt _ (by omega), by omega⟩
  obtain ⟨e, he⟩ : ∃ e, l[i]? = some e := ⟨_, List.getElem?_eq_getElem (by omega)⟩
  rw [flat_get l i e k he hk] at hu
  rw [add_off]
  obtain ⟨c0, c1, c2, c3, c4, c5⟩ := hc i e he
  obtain rfl | rfl | rfl | rfl | rfl | rfl : k = 0 ∨ k = 1 ∨ k = 2 ∨ k = 3 ∨ k = 4 ∨ k = 5 := by omega
  all_goals
    simp [vals] at hu
    subst hu
    first
    | exact c0
    | exact c1
    | exact c2
    | exact c3
    | exact c4
    | exact c5

theorem ents_of {w : World} {B g c : Nat} {L : List Ent} {n : Nat} (hn : n = L.length) (h : w.ownsRow B 64 6 (.slice (some ⟨g, 0, none⟩) n c) n (flat L)) : Ents w w.heap.size (some ⟨g, 0, none⟩) L := by
  subst hn
  intro hl
  have hg : g < w.heap.size := (h.lt g rfl).2
  refine ⟨g, 0, rfl, hg, fun i e hi => ?_⟩
  have hlt := (List.getElem?_eq_some_iff.1 hi).1
  have key : ∀ k, k < 6 → w.cell? ⟨g, i * 6 + k, none⟩ = (vals e)[k]? := fun k hk => by
    rw [h.cellAt (i * 6 + k) (by omega)]
    exact flat_get L i e k hi hk
  rw [Nat.zero_add]
  exact ⟨key 0 (by omega), key 1 (by omega), key 2 (by omega), key 3 (by omega), key 4 (by omega), key 5 (by omega)⟩

/-- v is a row of these entries, in memory from B on. -/
abbrev Row (w : World) (B : Nat) (v : Value) (l : List Ent) : Prop := w.ownsRow B 64 6 v l.length (flat l)

theorem Row.empty (w : World) : Row (w.alloc (.cells #[] 64)) w.heap.size (.slice (some ⟨w.heap.size, 0, none⟩) 0 0) [] := by
  have h := World.ownsRow_made (base := w.heap.size) (e := 64) (size := 6) w #[] 0 (Nat.le_refl _) (by simp [maxLen]) (by simp)
  exact h
theorem Row.keep {w w' : World} {B : Nat} {v : Value} {l : List Ent} (h : Row w B v l) (hb : Below w.heap.size w w') : Row w' B v l := h.kept (only_of_below hb none) (by
  cases hv : v.ownBlock with
  | none => exact .inl rfl
  | some g => exact .inr (fun e => by cases e))
theorem Row.form {w : World} {B : Nat} {v : Value} {l : List Ent} (h : Row w B v l) : ∃ A c, v = .slice A l.length c ∧ l.length ≤ c ∧ c ≤ 9223372036854775807 ∧ Ents w w.heap.size A l := by
  rcases id h.2 with ⟨rfl, hl⟩ | ⟨g, cap, cur, rfl, h1, h2, h3, h4, _⟩
  · have he : l = [] := List.eq_nil_of_length_eq_zero hl
    subst he
    exact ⟨none, 0, rfl, Nat.le_refl _, by omega, Ents.nil⟩
  · exact ⟨_, cap, rfl, h3, by simp only [maxLen] at h4; omega, ents_of rfl h⟩
/-- Entries appended, out of a slice that may be nil. -/
theorem Row.app {W : World} {B : Nat} {v : Value} {l m : List Ent} (h : Row W B v l) (A : Option Addr) (c : Nat) (ha : Ents W W.heap.size A m) (hl : l.length + m.length ≤ 2000) (hB : B ≤ W.heap.size) :
    ∃ v' w', (Builtin.append_ #[35, 35] 35 #[v, .slice A m.length c]).run Try.prog W = .ok v' w' ∧ Row w' B v' (l ++ m) ∧ W.grownBy w' v.ownBlock ∧ (v'.ownBlock = v.ownBlock ∨ v'.ownBlock = some W.heap.size) := by
  obtain ⟨v1, w1, h1, h2, h3, h4⟩ := append_all (P := Try.prog) 35 Try.underlying35 ent_info rfl (by omega) h A m.length c (flat m) (flat_len m) ha.cells (flat_one_cell m) (by simp only [maxLen]; omega) (by omega) hB
  refine ⟨v1, w1, h1, ?_, h3, h4⟩
  unfold Row
  rw [List.length_append, flat_snoc]
  exact h2
/-- The copy of a list. -/
theorem copy_run (l : List Ent) (A : Option Addr) (c : Nat) (W : World) (ha : Ents W W.heap.size A l) (hl : l.length ≤ 2000) :
    ∃ v' w', (Builtin.append_ #[35, 35] 35 #[.slice (some ⟨W.heap.size, 0, none⟩) 0 0, .slice A l.length c]).run Try.prog (W.alloc (.cells #[] 64)) = .ok v' w' ∧ Row w' W.heap.size v' l ∧ Below W.heap.size W w' := by
  have h0 : Below W.heap.size W (W.alloc (.cells #[] 64)) := (Below.refl _ _).alloc (Nat.le_refl _) _
  obtain ⟨v1, w1, h1, h2, h3, _⟩ := Row.app (Row.empty W) A c ((ha.below h0).more h0.size) (by simpa using hl) (by simp)
  exact ⟨v1, w1, h1, h2, below_own h0 h3 (Row.empty W) h0.size⟩
/-- Where the cells of an entry lie, in a row. -/
theorem Row.at_ {w : World} {B : Nat} {v : Value} {l : List Ent} (h : Row w B v l) {j : Nat} {e : Ent} (he : l[j]? = some e) : ∃ g c, v = .slice (some ⟨g, 0, none⟩) l.length c ∧ B ≤ g ∧ g < w.heap.size ∧ EntAt w g (j * 6) e ∧ ∀ k, w.frozen? ⟨g, k, none⟩ = false := by
  have hj := (List.getElem?_eq_some_iff.1 he).1
  obtain ⟨g, c, rfl, hB, hg⟩ := World.ownsRow.form h (by omega)
  have key : ∀ k, k < 6 → w.cell? ⟨g, j * 6 + k, none⟩ = (vals e)[k]? := fun k hk => by
    rw [h.cellAt (j * 6 + k) (by omega)]
    exact flat_get l j e k he hk
  exact ⟨g, c, rfl, hB, hg, ⟨key 0 (by omega), key 1 (by omega), key 2 (by omega), key 3 (by omega), key 4 (by omega), key 5 (by omega)⟩, fun k => h.frozenAt k⟩
theorem flat_set : ∀ (l : List Ent) (j : Nat) (e : Ent) (x : Int), l[j]? = some e → (flat l).set (j * 6) (.int .i64 x) = flat (l.set j (x, e.2))
  | [], j, e, x, h => by simp at h
  | a :: l, 0, e, x, h => by
    simp at h
    subst h
    rfl
  | a :: l, j + 1, e, x, h => by
    have ih := flat_set l j e x (by simpa using h)
    have e1 : flat (a :: l) = vals a ++ flat l := rfl
    have e2 : flat ((a :: l).set (j + 1) (x, e.2)) = vals a ++ flat (l.set j (x, e.2)) := rfl
    rw [e1, e2, ← ih, List.set_append_right _ _ (by simp [vals]; omega)]
    congr 2
    simp [vals]
    omega
/-- The epoch of one of them overwritten. -/
theorem Row.epoch {w : World} {B g c n : Nat} {l : List Ent} (h : Row w B (.slice (some ⟨g, 0, none⟩) n c) l) {j : Nat} {e : Ent} (he : l[j]? = some e) (x : Int) :
    Row (w.setCell ⟨g, j * 6, none⟩ (.int .i64 x)) B (.slice (some ⟨g, 0, none⟩) n c) (l.set j (x, e.2)) := by
  have hn : n = l.length := by
    rcases h.2 with ⟨h, _⟩ | ⟨_, _, _, h, _⟩
    · cases h
    · cases h; rfl
  subst hn
  have h1 := (World.ownsRow.stored h (j * 6) (.int .i64 x)).1
  unfold Row
  rw [List.length_set, ← flat_set l j e x he]
  exact h1
end Go.Proofs.Ytdphfhenjndkkaa

set_option linter.unusedSimpArgs false
set_option linter.unusedVariables false
set_option maxRecDepth 100000
namespace Go.Proofs.Ytdphfhenjndkkaa
open Go Go.RowKit Go.Sq Go.Wd Go.Arch

theorem Row.where_ {w : World} {B : Nat} {A : Option Addr} {n c : Nat} {l : List Ent} (h : Row w B (.slice A n c) l) : A = none ∨ ∃ g, A = some ⟨g, 0, none⟩ ∧ B ≤ g := by
  rcases h.2 with ⟨h', _⟩ | ⟨g, cap, cur, h1, h2, _⟩
  · cases h'; exact .inl rfl
  · cases h1; exact .inr ⟨g, rfl, h2⟩

theorem app_full (l m : List Ent) (A B : Option Addr) (d : Nat) (w : World) (ha : Ents w w.heap.size A l) (hb : Ents w w.heap.size B m) (hl : l.length + m.length ≤ 2000) :
    ∃ (sl : SlcE) (w' : World), (Builtin.append_ #[35, 35] 35 #[.slice A l.length l.length, .slice B m.length d]).run Try.prog w = .ok (.slice sl.1 sl.2.1 sl.2.2) w' ∧ LogAt w' w'.heap.size sl (l ++ m) ∧ Below w.heap.size w w' ∧ (sl.1 = A ∨ ∃ g, sl.1 = some ⟨g, 0, none⟩ ∧ w.heap.size ≤ g) := by
  obtain ⟨i, hi, hz, h2, h3⟩ := info_parts ent_info
  rcases Nat.eq_zero_or_pos m.length with h0 | h0
  · obtain rfl : m = [] := List.eq_nil_of_length_eq_zero h0
    refine ⟨(A, l.length, l.length), w, ?_, ?_, Below.refl _ _, .inl rfl⟩
    · refine run_append_nothing (P := Try.prog) w _ _ _ _ i Try.underlying35 hi A l.length l.length (Nat.le_refl _) _ ?_
      cases B with
      | none => exact Src.ofNil w Try.underlying35 d
      | some a => exact Src.ofSlice w Try.underlying35 a 0 d [] (by simp) (by simp) (by simp)
    · rw [List.append_nil]
      exact ⟨rfl, Nat.le_refl _, (by show l.length ≤ 9223372036854775807; omega), ha⟩
  · obtain ⟨b, hB, hb2⟩ := hb.cells h0
    subst hB
    rcases Nat.eq_zero_or_pos l.length with l0 | l0
    · obtain rfl : l = [] := List.eq_nil_of_length_eq_zero l0
      cases A with
      | none =>
        obtain ⟨v1, w1, h1, h2, h3, _⟩ := append_all (P := Try.prog) 35 Try.underlying35 ent_info rfl (by omega) (World.ownsRow_nil w w.heap.size 64 6) (some b) m.length d (flat m) (flat_len m) hb.cells (flat_one_cell m) (by simp only [maxLen]; omega) (by omega) (Nat.le_refl _)
        have hR : Row w1 w.heap.size v1 m := by
          unfold Row
          simpa using h2
        obtain ⟨A', c', rfl, q1, q2, q3⟩ := hR.form
        exact ⟨(A', m.length, c'), w1, h1, ⟨rfl, q1, q2, q3⟩, below_own (Below.refl _ _) h3 (World.ownsRow_nil w w.heap.size 64 6) (Nat.le_refl _), hR.where_⟩
      | some a =>
        obtain ⟨v1, w1, h1, h2', h3'⟩ := run_append_arg_grows (P := Try.prog) w 35 35 64 i _ 6 48 Try.underlying35 hi hz h2 h3 rfl (by omega) a 0 0 [] rfl (by simp) b m.length d (flat m) (flat_len m) hb2 (by omega) (by simp only [maxLen]; omega) (by omega)
        have hR : Row w1 w.heap.size v1 m := by
          unfold Row
          simpa using h2'
        obtain ⟨A', c', rfl, q1, q2, q3⟩ := hR.form
        exact ⟨(A', m.length, c'), w1, h1, ⟨rfl, q1, q2, q3⟩, ⟨h3'.os, h3'.tape, h3'.output, h3'.size, fun k hk => h3'.block k hk (by simp)⟩, hR.where_.elim (fun e => absurd h0 (by subst e; have := q3; intro hh; obtain ⟨_, _, e, _⟩ := this hh; cases e)) .inr⟩
    · obtain ⟨a, hA, ha2⟩ := ha.cells l0
      subst hA
      obtain ⟨v1, w1, h1, h2', h3'⟩ := run_append_arg_grows (P := Try.prog) w 35 35 64 i _ 6 48 Try.underlying35 hi hz h2 h3 rfl (by omega) a l.length l.length (flat l) (flat_len l) ha2 b m.length d (flat m) (flat_len m) hb2 (by omega) (by simp only [maxLen]; omega) (by omega)
      have hR : Row w1 w.heap.size v1 (l ++ m) := by
        unfold Row
        rw [List.length_append, flat_snoc]
        exact h2'
      obtain ⟨A', c', rfl, q1, q2, q3⟩ := hR.form
      exact ⟨(A', (l ++ m).length, c'), w1, by rw [h1], ⟨rfl, q1, q2, q3⟩, ⟨h3'.os, h3'.tape, h3'.output, h3'.size, fun k hk => h3'.block k hk (by simp)⟩, hR.where_.elim (fun e => absurd h0 (by subst e; have := q3; intro hh; obtain ⟨_, _, e, _⟩ := this (by simp; omega); cases e)) .inr⟩
end Go.Proofs.Ytdphfhenjndkkaa

set_option linter.unusedSimpArgs false
set_option linter.unusedVariables false
set_option maxRecDepth 100000
namespace Go.Proofs.Ytdphfhenjndkkaa
open Go.RowKit Go.Sq Go.Arch

set_option maxHeartbeats 1000000 in
theorem fields_any (b : Nat) (w : World) :
    Calls Try.prog 96 #[.pointer (some ⟨b, 0, none⟩)] w fun e w' => e = .returned (.slice (some ⟨w.heap.size, 0, none⟩) 5 5) ∧
      w' = (w.alloc (.cells #[.pointer (some ⟨b, 0, none⟩), .int .i64 1, .int .i64 2147483647, .pointer (some ⟨b, 1, none⟩), .int .i64 0, .int .i64 3,
        .pointer (some ⟨b, 2, none⟩), .int .i64 (-1), .int .i64 2147483647, .pointer (some ⟨b, 3, none⟩), .int .i64 1, .int .i64 4,
        .pointer (some ⟨b, 4, none⟩), .int .i64 (-1048576), .int .i64 1048576] 152)).drew := by
  go_enter Try.func96, Try.ntmps96
  go_wp2_with fail
  refine wp_region_q 20 2 (fun _ => True) (by kernel_rfl) (by kernel_rfl) (by kernel_rfl) (by kernel_rfl) (by kernel_rfl) trivial rfl ?_
  intro K T hK hT
  simp only [List.map, List.take, List.drop] at hK ⊢
  go_wp2_with (apply SeqQ.pure; rfl; (intro w hw; go_simp; with_reducible rfl); simp only [Act.put, List.setIfInBounds_toArray, List.set_cons_zero, List.set_cons_succ])
  refine SeqQ.nil (hK _ ?_)
  clear hK hT
  refine wpListH.cons rfl (fun K' hK' => ?_)
  go_simp
  refine hK' _ _ trivial (fun _ => ?_)
  clear hK'
  refine wpListH.cons rfl (fun K' hK' => ?_)
  go_simp
  refine hK' _ _ trivial (fun _ => ?_)
  clear hK'
  refine wpListH.nil ?_
  go_wp2_with fail
  go_ret
  exact ⟨rfl, rfl⟩

set_option maxHeartbeats 4000000 in
theorem check_any (x0 x1 x2 x3 x4 : Int) (w : World) :
    Calls Try.prog 87 #[.agg #[.int .i64 x0, .int .i64 x1, .int .i64 x2, .int .i64 x3, .int .i64 x4]] w fun e w' =>
      e = .returned (.int .i64 (errOf (ordOk ⟨x0, x1, x2, x3, x4⟩))) ∧ Below w.heap.size w w' := by
  have ho : ordOk ⟨x0, x1, x2, x3, x4⟩ = decide (1 ≤ x0 ∧ x0 ≤ 2147483647 ∧ 0 ≤ x1 ∧ x1 ≤ 3 ∧ -1 ≤ x2 ∧ x2 ≤ 2147483647 ∧ 1 ≤ x3 ∧ x3 ≤ 4 ∧ -1048576 ≤ x4 ∧ x4 ≤ 1048576) := rfl
  generalize ordOk ⟨x0, x1, x2, x3, x4⟩ = m at ho ⊢
  have HO := Lib.hid ho
  clear ho
  go_enter Try.func87, Try.ntmps87
  go_wp2_with (go_at_call 96; refine (fields_any _ _).mono ?_; rintro e w' ⟨rfl, rfl⟩)
  go_loopw [7] (fun i wr => ∃ k : Nat, k ≤ 5 ∧ i = .int .i64 k ∧ ((0 < k → 1 ≤ x0 ∧ x0 ≤ 2147483647) ∧ (1 < k → 0 ≤ x1 ∧ x1 ≤ 3) ∧ (2 < k → -1 ≤ x2 ∧ x2 ≤ 2147483647) ∧ (3 < k → 1 ≤ x3 ∧ x3 ≤ 4) ∧ (4 < k → -1048576 ≤ x4 ∧ x4 ≤ 1048576)) ∧
      Keeps (w.heap.size + 2) [(⟨w.heap.size, 0, none⟩, .int .i64 x0), (⟨w.heap.size, 1, none⟩, .int .i64 x1), (⟨w.heap.size, 2, none⟩, .int .i64 x2), (⟨w.heap.size, 3, none⟩, .int .i64 x3), (⟨w.heap.size, 4, none⟩, .int .i64 x4), (⟨w.heap.size + 1, 0, none⟩, .pointer (some ⟨w.heap.size, 0, none⟩)), (⟨w.heap.size + 1, 1, none⟩, .int .i64 1), (⟨w.heap.size + 1, 2, none⟩, .int .i64 2147483647), (⟨w.heap.size + 1, 3, none⟩, .pointer (some ⟨w.heap.size, 1, none⟩)), (⟨w.heap.size + 1, 4, none⟩, .int .i64 0), (⟨w.heap.size + 1, 5, none⟩, .int .i64 3), (⟨w.heap.size + 1, 6, none⟩, .pointer (some ⟨w.heap.size, 2, none⟩)), (⟨w.heap.size + 1, 7, none⟩, .int .i64 (-1)), (⟨w.heap.size + 1, 8, none⟩, .int .i64 2147483647), (⟨w.heap.size + 1, 9, none⟩, .pointer (some ⟨w.heap.size, 3, none⟩)), (⟨w.heap.size + 1, 10, none⟩, .int .i64 1), (⟨w.heap.size + 1, 11, none⟩, .int .i64 4), (⟨w.heap.size + 1, 12, none⟩, .pointer (some ⟨w.heap.size, 4, none⟩)), (⟨w.heap.size + 1, 13, none⟩, .int .i64 (-1048576)), (⟨w.heap.size + 1, 14, none⟩, .int .i64 1048576)] w wr) (fun i _ => 5 - (intOf i).toNat)
  case atStart =>
    refine ⟨0, by omega, rfl, by omega, ?_, by simp, by simp [List.forall_mem_cons], by simp [cellsAre_cons, cellsAre_nil, go_sem, World.cell?_alloc_past]⟩
    (repeat (first | with_reducible apply Below.drew | with_reducible refine Below.setCell ?_ (by first | exact Nat.le_refl _ | (simp; done) | (simp; omega) | omega) _ | with_reducible refine Below.alloc ?_ (by first | exact Nat.le_refl _ | (simp; done) | (simp; omega) | omega) _ | with_reducible exact Below.refl _ _ | with_reducible assumption))
  case round =>
    obtain ⟨k, hk5, rfl, hr, hk⟩ := hrel
    obtain rfl | rfl | rfl | rfl | rfl | rfl : k = 0 ∨ k = 1 ∨ k = 2 ∨ k = 3 ∨ k = 4 ∨ k = 5 := by omega
    · have hk' := hk
      obtain ⟨h1, h2, h3, h4⟩ := hk'
      simp only [cellsAre_cons, cellsAre_nil, and_true] at h4
      go_wp2_with fail
      refine abs_code (fun w' => Keeps (wr.heap.size + 1) ([(⟨wr.heap.size, 0, none⟩, .pointer (some ⟨w.heap.size, 0, none⟩)), (⟨wr.heap.size, 1, none⟩, .int .i64 1), (⟨wr.heap.size, 2, none⟩, .int .i64 2147483647)] ++ [(⟨w.heap.size, 0, none⟩, .int .i64 x0), (⟨w.heap.size, 1, none⟩, .int .i64 x1), (⟨w.heap.size, 2, none⟩, .int .i64 x2), (⟨w.heap.size, 3, none⟩, .int .i64 x3), (⟨w.heap.size, 4, none⟩, .int .i64 x4), (⟨w.heap.size + 1, 0, none⟩, .pointer (some ⟨w.heap.size, 0, none⟩)), (⟨w.heap.size + 1, 1, none⟩, .int .i64 1), (⟨w.heap.size + 1, 2, none⟩, .int .i64 2147483647), (⟨w.heap.size + 1, 3, none⟩, .pointer (some ⟨w.heap.size, 1, none⟩)), (⟨w.heap.size + 1, 4, none⟩, .int .i64 0), (⟨w.heap.size + 1, 5, none⟩, .int .i64 3), (⟨w.heap.size + 1, 6, none⟩, .pointer (some ⟨w.heap.size, 2, none⟩)), (⟨w.heap.size + 1, 7, none⟩, .int .i64 (-1)), (⟨w.heap.size + 1, 8, none⟩, .int .i64 2147483647), (⟨w.heap.size + 1, 9, none⟩, .pointer (some ⟨w.heap.size, 3, none⟩)), (⟨w.heap.size + 1, 10, none⟩, .int .i64 1), (⟨w.heap.size + 1, 11, none⟩, .int .i64 4), (⟨w.heap.size + 1, 12, none⟩, .pointer (some ⟨w.heap.size, 4, none⟩)), (⟨w.heap.size + 1, 13, none⟩, .int .i64 (-1048576)), (⟨w.heap.size + 1, 14, none⟩, .int .i64 1048576)]) w w') (Keeps.more (B := w.heap.size + 2) (L := [(⟨w.heap.size, 0, none⟩, .int .i64 x0), (⟨w.heap.size, 1, none⟩, .int .i64 x1), (⟨w.heap.size, 2, none⟩, .int .i64 x2), (⟨w.heap.size, 3, none⟩, .int .i64 x3), (⟨w.heap.size, 4, none⟩, .int .i64 x4), (⟨w.heap.size + 1, 0, none⟩, .pointer (some ⟨w.heap.size, 0, none⟩)), (⟨w.heap.size + 1, 1, none⟩, .int .i64 1), (⟨w.heap.size + 1, 2, none⟩, .int .i64 2147483647), (⟨w.heap.size + 1, 3, none⟩, .pointer (some ⟨w.heap.size, 1, none⟩)), (⟨w.heap.size + 1, 4, none⟩, .int .i64 0), (⟨w.heap.size + 1, 5, none⟩, .int .i64 3), (⟨w.heap.size + 1, 6, none⟩, .pointer (some ⟨w.heap.size, 2, none⟩)), (⟨w.heap.size + 1, 7, none⟩, .int .i64 (-1)), (⟨w.heap.size + 1, 8, none⟩, .int .i64 2147483647), (⟨w.heap.size + 1, 9, none⟩, .pointer (some ⟨w.heap.size, 3, none⟩)), (⟨w.heap.size + 1, 10, none⟩, .int .i64 1), (⟨w.heap.size + 1, 11, none⟩, .int .i64 4), (⟨w.heap.size + 1, 12, none⟩, .pointer (some ⟨w.heap.size, 4, none⟩)), (⟨w.heap.size + 1, 13, none⟩, .int .i64 (-1048576)), (⟨w.heap.size + 1, 14, none⟩, .int .i64 1048576)]) (by repeat (first | with_reducible assumption | with_reducible apply Keeps.drew | with_reducible apply Keeps.alloc)) (by omega) (by simp) (by simp [List.forall_mem_cons]) (by simp [cellsAre_cons, cellsAre_nil, go_sem])) ?_
      intro w2 hk2
      clear hk h1 h3 h4
      generalize wr.heap.size = b at *
      simp only [List.cons_append, List.nil_append] at hk2
      have hB := h2
      clear h2
      obtain ⟨h1, h2, h3, h4⟩ := id hk2
      simp only [cellsAre_cons, cellsAre_nil, and_true] at h4
      refine wp_region_all (fun w' => Keeps (b + 1) [(⟨b, 0, none⟩, .pointer (some ⟨w.heap.size, 0, none⟩)), (⟨b, 1, none⟩, .int .i64 1), (⟨b, 2, none⟩, .int .i64 2147483647), (⟨w.heap.size, 0, none⟩, .int .i64 x0), (⟨w.heap.size, 1, none⟩, .int .i64 x1), (⟨w.heap.size, 2, none⟩, .int .i64 x2), (⟨w.heap.size, 3, none⟩, .int .i64 x3), (⟨w.heap.size, 4, none⟩, .int .i64 x4), (⟨w.heap.size + 1, 0, none⟩, .pointer (some ⟨w.heap.size, 0, none⟩)), (⟨w.heap.size + 1, 1, none⟩, .int .i64 1), (⟨w.heap.size + 1, 2, none⟩, .int .i64 2147483647), (⟨w.heap.size + 1, 3, none⟩, .pointer (some ⟨w.heap.size, 1, none⟩)), (⟨w.heap.size + 1, 4, none⟩, .int .i64 0), (⟨w.heap.size + 1, 5, none⟩, .int .i64 3), (⟨w.heap.size + 1, 6, none⟩, .pointer (some ⟨w.heap.size, 2, none⟩)), (⟨w.heap.size + 1, 7, none⟩, .int .i64 (-1)), (⟨w.heap.size + 1, 8, none⟩, .int .i64 2147483647), (⟨w.heap.size + 1, 9, none⟩, .pointer (some ⟨w.heap.size, 3, none⟩)), (⟨w.heap.size + 1, 10, none⟩, .int .i64 1), (⟨w.heap.size + 1, 11, none⟩, .int .i64 4), (⟨w.heap.size + 1, 12, none⟩, .pointer (some ⟨w.heap.size, 4, none⟩)), (⟨w.heap.size + 1, 13, none⟩, .int .i64 (-1048576)), (⟨w.heap.size + 1, 14, none⟩, .int .i64 1048576)] w w') (by kernel_rfl) (by kernel_rfl) (by with_reducible apply Keeps.drew; with_reducible assumption) rfl ?_
      intro K T hK hT hT'
      simp only [List.map] at hK ⊢
      go_wp2_with (first
        | (apply SeqD.skip; rfl; simp only [Act.put, List.setIfInBounds_toArray, List.set_cons_zero, List.set_cons_succ])
        | (apply SeqD.call; rfl; rfl; (intro w hw; obtain ⟨h1, h2, h3, h4⟩ := hT _ hw; simp only [cellsAre_cons, cellsAre_nil, and_true] at h4; go_simp; exact ⟨rfl, rfl⟩); (intro w hw; obtain ⟨h1, h2, h3, h4⟩ := hT _ hw; simp only [cellsAre_cons, cellsAre_nil, and_true] at h4; (first | fail)); simp only [Act.put, List.setIfInBounds_toArray, List.set_cons_zero, List.set_cons_succ])
        | (apply SeqD.pure; rfl; (intro w hw; obtain ⟨h1, h2, h3, h4⟩ := hT _ hw; simp only [cellsAre_cons, cellsAre_nil, and_true] at h4; go_simp; with_reducible rfl); simp only [Act.put, List.setIfInBounds_toArray, List.set_cons_zero, List.set_cons_succ])
        | (apply SeqD.split; rfl; rfl; all_goals (intro hc; simp only [hc]; try simp only [beq_iff_eq, decide_eq_true_eq, beq_eq_false_iff_ne, decide_eq_false_iff_not, bne_iff_ne, ne_eq, Bool.not_eq_true', Bool.not_eq_false', Int.not_le, Int.not_lt, bne_eq_false_iff_eq] at hc)))
      all_goals (apply SeqD.nil; refine hK _ ?_; clear h1 h2 h3 h4; intro w hw; obtain ⟨h1, h2, h3, h4⟩ := id hw; simp only [cellsAre_cons, cellsAre_nil, and_true] at h4; clear hT hT' hK)
      all_goals go_wp2
      all_goals first
        | (go_ret; refine ⟨ret_int ?_, h1⟩; rw [errOf, if_neg]; rw [HO.out, decide_eq_true_eq]; omega)
        | (go_roundw; (case rel => exact ⟨1, by omega, by go_num, by omega, hw.sub (by omega) (by simp [List.forall_mem_cons])⟩); (case measure => simp [intOf]))
    · have hk' := hk
      obtain ⟨h1, h2, h3, h4⟩ := hk'
      simp only [cellsAre_cons, cellsAre_nil, and_true] at h4
      go_wp2_with fail
      refine abs_code (fun w' => Keeps (wr.heap.size + 1) ([(⟨wr.heap.size, 0, none⟩, .pointer (some ⟨w.heap.size, 1, none⟩)), (⟨wr.heap.size, 1, none⟩, .int .i64 0), (⟨wr.heap.size, 2, none⟩, .int .i64 3)] ++ [(⟨w.heap.size, 0, none⟩, .int .i64 x0), (⟨w.heap.size, 1, none⟩, .int .i64 x1), (⟨w.heap.size, 2, none⟩, .int .i64 x2), (⟨w.heap.size, 3, none⟩, .int .i64 x3), (⟨w.heap.size, 4, none⟩, .int .i64 x4), (⟨w.heap.size + 1, 0, none⟩, .pointer (some ⟨w.heap.size, 0, none⟩)), (⟨w.heap.size + 1, 1, none⟩, .int .i64 1), (⟨w.heap.size + 1, 2, none⟩, .int .i64 2147483647), (⟨w.heap.size + 1, 3, none⟩, .pointer (some ⟨w.heap.size, 1, none⟩)), (⟨w.heap.size + 1, 4, none⟩, .int .i64 0), (⟨w.heap.size + 1, 5, none⟩, .int .i64 3), (⟨w.heap.size + 1, 6, none⟩, .pointer (some ⟨w.heap.size, 2, none⟩)), (⟨w.heap.size + 1, 7, none⟩, .int .i64 (-1)), (⟨w.heap.size + 1, 8, none⟩, .int .i64 2147483647), (⟨w.heap.size + 1, 9, none⟩, .pointer (some ⟨w.heap.size, 3, none⟩)), (⟨w.heap.size + 1, 10, none⟩, .int .i64 1), (⟨w.heap.size + 1, 11, none⟩, .int .i64 4), (⟨w.heap.size + 1, 12, none⟩, .pointer (some ⟨w.heap.size, 4, none⟩)), (⟨w.heap.size + 1, 13, none⟩, .int .i64 (-1048576)), (⟨w.heap.size + 1, 14, none⟩, .int .i64 1048576)]) w w') (Keeps.more (B := w.heap.size + 2) (L := [(⟨w.heap.size, 0, none⟩, .int .i64 x0), (⟨w.heap.size, 1, none⟩, .int .i64 x1), (⟨w.heap.size, 2, none⟩, .int .i64 x2), (⟨w.heap.size, 3, none⟩, .int .i64 x3), (⟨w.heap.size, 4, none⟩, .int .i64 x4), (⟨w.heap.size + 1, 0, none⟩, .pointer (some ⟨w.heap.size, 0, none⟩)), (⟨w.heap.size + 1, 1, none⟩, .int .i64 1), (⟨w.heap.size + 1, 2, none⟩, .int .i64 2147483647), (⟨w.heap.size + 1, 3, none⟩, .pointer (some ⟨w.heap.size, 1, none⟩)), (⟨w.heap.size + 1, 4, none⟩, .int .i64 0), (⟨w.heap.size + 1, 5, none⟩, .int .i64 3), (⟨w.heap.size + 1, 6, none⟩, .pointer (some ⟨w.heap.size, 2, none⟩)), (⟨w.heap.size + 1, 7, none⟩, .int .i64 (-1)), (⟨w.heap.size + 1, 8, none⟩, .int .i64 2147483647), (⟨w.heap.size + 1, 9, none⟩, .pointer (some ⟨w.heap.size, 3, none⟩)), (⟨w.heap.size + 1, 10, none⟩, .int .i64 1), (⟨w.heap.size + 1, 11, none⟩, .int .i64 4), (⟨w.heap.size + 1, 12, none⟩, .pointer (some ⟨w.heap.size, 4, none⟩)), (⟨w.heap.size + 1, 13, none⟩, .int .i64 (-1048576)), (⟨w.heap.size + 1, 14, none⟩, .int .i64 1048576)]) (by repeat (first | with_reducible assumption | with_reducible apply Keeps.drew | with_reducible apply Keeps.alloc)) (by omega) (by simp) (by simp [List.forall_mem_cons]) (by simp [cellsAre_cons, cellsAre_nil, go_sem])) ?_
      intro w2 hk2
      clear hk h1 h3 h4
      generalize wr.heap.size = b at *
      simp only [List.cons_append, List.nil_append] at hk2
      have hB := h2
      clear h2
      obtain ⟨h1, h2, h3, h4⟩ := id hk2
      simp only [cellsAre_cons, cellsAre_nil, and_true] at h4
      refine wp_region_all (fun w' => Keeps (b + 1) [(⟨b, 0, none⟩, .pointer (some ⟨w.heap.size, 1, none⟩)), (⟨b, 1, none⟩, .int .i64 0), (⟨b, 2, none⟩, .int .i64 3), (⟨w.heap.size, 0, none⟩, .int .i64 x0), (⟨w.heap.size, 1, none⟩, .int .i64 x1), (⟨w.heap.size, 2, none⟩, .int .i64 x2), (⟨w.heap.size, 3, none⟩, .int .i64 x3), (⟨w.heap.size, 4, none⟩, .int .i64 x4), (⟨w.heap.size + 1, 0, none⟩, .pointer (some ⟨w.heap.size, 0, none⟩)), (⟨w.heap.size + 1, 1, none⟩, .int .i64 1), (⟨w.heap.size + 1, 2, none⟩, .int .i64 2147483647), (⟨w.heap.size + 1, 3, none⟩, .pointer (some ⟨w.heap.size, 1, none⟩)), (⟨w.heap.size + 1, 4, none⟩, .int .i64 0), (⟨w.heap.size + 1, 5, none⟩, .int .i64 3), (⟨w.heap.size + 1, 6, none⟩, .pointer (some ⟨w.heap.size, 2, none⟩)), (⟨w.heap.size + 1, 7, none⟩, .int .i64 (-1)), (⟨w.heap.size + 1, 8, none⟩, .int .i64 2147483647), (⟨w.heap.size + 1, 9, none⟩, .pointer (some ⟨w.heap.size, 3, none⟩)), (⟨w.heap.size + 1, 10, none⟩, .int .i64 1), (⟨w.heap.size + 1, 11, none⟩, .int .i64 4), (⟨w.heap.size + 1, 12, none⟩, .pointer (some ⟨w.heap.size, 4, none⟩)), (⟨w.heap.size + 1, 13, none⟩, .int .i64 (-1048576)), (⟨w.heap.size + 1, 14, none⟩, .int .i64 1048576)] w w') (by kernel_rfl) (by kernel_rfl) (by with_reducible apply Keeps.drew; with_reducible assumption) rfl ?_
      intro K T hK hT hT'
      simp only [List.map] at hK ⊢
      go_wp2_with (first
        | (apply SeqD.skip; rfl; simp only [Act.put, List.setIfInBounds_toArray, List.set_cons_zero, List.set_cons_succ])
        | (apply SeqD.call; rfl; rfl; (intro w hw; obtain ⟨h1, h2, h3, h4⟩ := hT _ hw; simp only [cellsAre_cons, cellsAre_nil, and_true] at h4; go_simp; exact ⟨rfl, rfl⟩); (intro w hw; obtain ⟨h1, h2, h3, h4⟩ := hT _ hw; simp only [cellsAre_cons, cellsAre_nil, and_true] at h4; (first | fail)); simp only [Act.put, List.setIfInBounds_toArray, List.set_cons_zero, List.set_cons_succ])
        | (apply SeqD.pure; rfl; (intro w hw; obtain ⟨h1, h2, h3, h4⟩ := hT _ hw; simp only [cellsAre_cons, cellsAre_nil, and_true] at h4; go_simp; with_reducible rfl); simp only [Act.put, List.setIfInBounds_toArray, List.set_cons_zero, List.set_cons_succ])
        | (apply SeqD.split; rfl; rfl; all_goals (intro hc; simp only [hc]; try simp only [beq_iff_eq, decide_eq_true_eq, beq_eq_false_iff_ne, decide_eq_false_iff_not, bne_iff_ne, ne_eq, Bool.not_eq_true', Bool.not_eq_false', Int.not_le, Int.not_lt, bne_eq_false_iff_eq] at hc)))
      all_goals (apply SeqD.nil; refine hK _ ?_; clear h1 h2 h3 h4; intro w hw; obtain ⟨h1, h2, h3, h4⟩ := id hw; simp only [cellsAre_cons, cellsAre_nil, and_true] at h4; clear hT hT' hK)
      all_goals go_wp2
      all_goals first
        | (go_ret; refine ⟨ret_int ?_, h1⟩; rw [errOf, if_neg]; rw [HO.out, decide_eq_true_eq]; omega)
        | (go_roundw; (case rel => exact ⟨2, by omega, by go_num, by omega, hw.sub (by omega) (by simp [List.forall_mem_cons])⟩); (case measure => simp [intOf]))
    · have hk' := hk
      obtain ⟨h1, h2, h3, h4⟩ := hk'
      simp only [cellsAre_cons, cellsAre_nil, and_true] at h4
      go_wp2_with fail
      refine abs_code (fun w' => Keeps (wr.heap.size + 1) ([(⟨wr.heap.size, 0, none⟩, .pointer (some ⟨w.heap.size, 2, none⟩)), (⟨wr.heap.size, 1, none⟩, .int .i64 (-1)), (⟨wr.heap.size, 2, none⟩, .int .i64 2147483647)] ++ [(⟨w.heap.size, 0, none⟩, .int .i64 x0), (⟨w.heap.size, 1, none⟩, .int .i64 x1), (⟨w.heap.size, 2, none⟩, .int .i64 x2), (⟨w.heap.size, 3, none⟩, .int .i64 x3), (⟨w.heap.size, 4, none⟩, .int .i64 x4), (⟨w.heap.size + 1, 0, none⟩, .pointer (some ⟨w.heap.size, 0, none⟩)), (⟨w.heap.size + 1, 1, none⟩, .int .i64 1), (⟨w.heap.size + 1, 2, none⟩, .int .i64 2147483647), (⟨w.heap.size + 1, 3, none⟩, .pointer (some ⟨w.heap.size, 1, none⟩)), (⟨w.heap.size + 1, 4, none⟩, .int .i64 0), (⟨w.heap.size + 1, 5, none⟩, .int .i64 3), (⟨w.heap.size + 1, 6, none⟩, .pointer (some ⟨w.heap.size, 2, none⟩)), (⟨w.heap.size + 1, 7, none⟩, .int .i64 (-1)), (⟨w.heap.size + 1, 8, none⟩, .int .i64 2147483647), (⟨w.heap.size + 1, 9, none⟩, .pointer (some ⟨w.heap.size, 3, none⟩)), (⟨w.heap.size + 1, 10, none⟩, .int .i64 1), (⟨w.heap.size + 1, 11, none⟩, .int .i64 4), (⟨w.heap.size + 1, 12, none⟩, .pointer (some ⟨w.heap.size, 4, none⟩)), (⟨w.heap.size + 1, 13, none⟩, .int .i64 (-1048576)), (⟨w.heap.size + 1, 14, none⟩, .int .i64 1048576)]) w w') (Keeps.more (B := w.heap.size + 2) (L := [(⟨w.heap.size, 0, none⟩, .int .i64 x0), (⟨w.heap.size, 1, none⟩, .int .i64 x1), (⟨w.heap.size, 2, none⟩, .int .i64 x2), (⟨w.heap.size, 3, none⟩, .int .i64 x3), (⟨w.heap.size, 4, none⟩, .int .i64 x4), (⟨w.heap.size + 1, 0, none⟩, .pointer (some ⟨w.heap.size, 0, none⟩)), (⟨w.heap.size + 1, 1, none⟩, .int .i64 1), (⟨w.heap.size + 1, 2, none⟩, .int .i64 2147483647), (⟨w.heap.size + 1, 3, none⟩, .pointer (some ⟨w.heap.size, 1, none⟩)), (⟨w.heap.size + 1, 4, none⟩, .int .i64 0), (⟨w.heap.size + 1, 5, none⟩, .int .i64 3), (⟨w.heap.size + 1, 6, none⟩, .pointer (some ⟨w.heap.size, 2, none⟩)), (⟨w.heap.size + 1, 7, none⟩, .int .i64 (-1)), (⟨w.heap.size + 1, 8, none⟩, .int .i64 2147483647), (⟨w.heap.size + 1, 9, none⟩, .pointer (some ⟨w.heap.size, 3, none⟩)), (⟨w.heap.size + 1, 10, none⟩, .int .i64 1), (⟨w.heap.size + 1, 11, none⟩, .int .i64 4), (⟨w.heap.size + 1, 12, none⟩, .pointer (some ⟨w.heap.size, 4, none⟩)), (⟨w.heap.size + 1, 13, none⟩, .int .i64 (-1048576)), (⟨w.heap.size + 1, 14, none⟩, .int .i64 1048576)]) (by repeat (first | with_reducible assumption | with_reducible apply Keeps.drew | with_reducible apply Keeps.alloc)) (by omega) (by simp) (by simp [List.forall_mem_cons]) (by simp [cellsAre_cons, cellsAre_nil, go_sem])) ?_
      intro w2 hk2
      clear hk h1 h3 h4
      generalize wr.heap.size = b at *
      simp only [List.cons_append, List.nil_append] at hk2
      have hB := h2
      clear h2
      obtain ⟨h1, h2, h3, h4⟩ := id hk2
      simp only [cellsAre_cons, cellsAre_nil, and_true] at h4
      refine wp_region_all (fun w' => Keeps (b + 1) [(⟨b, 0, none⟩, .pointer (some ⟨w.heap.size, 2, none⟩)), (⟨b, 1, none⟩, .int .i64 (-1)), (⟨b, 2, none⟩, .int .i64 2147483647), (⟨w.heap.size, 0, none⟩, .int .i64 x0), (⟨w.heap.size, 1, none⟩, .int .i64 x1), (⟨w.heap.size, 2, none⟩, .int .i64 x2), (⟨w.heap.size, 3, none⟩, .int .i64 x3), (⟨w.heap.size, 4, none⟩, .int .i64 x4), (⟨w.heap.size + 1, 0, none⟩, .pointer (some ⟨w.heap.size, 0, none⟩)), (⟨w.heap.size + 1, 1, none⟩, .int .i64 1), (⟨w.heap.size + 1, 2, none⟩, .int .i64 2147483647), (⟨w.heap.size + 1, 3, none⟩, .pointer (some ⟨w.heap.size, 1, none⟩)), (⟨w.heap.size + 1, 4, none⟩, .int .i64 0), (⟨w.heap.size + 1, 5, none⟩, .int .i64 3), (⟨w.heap.size + 1, 6, none⟩, .pointer (some ⟨w.heap.size, 2, none⟩)), (⟨w.heap.size + 1, 7, none⟩, .int .i64 (-1)), (⟨w.heap.size + 1, 8, none⟩, .int .i64 2147483647), (⟨w.heap.size + 1, 9, none⟩, .pointer (some ⟨w.heap.size, 3, none⟩)), (⟨w.heap.size + 1, 10, none⟩, .int .i64 1), (⟨w.heap.size + 1, 11, none⟩, .int .i64 4), (⟨w.heap.size + 1, 12, none⟩, .pointer (some ⟨w.heap.size, 4, none⟩)), (⟨w.heap.size + 1, 13, none⟩, .int .i64 (-1048576)), (⟨w.heap.size + 1, 14, none⟩, .int .i64 1048576)] w w') (by kernel_rfl) (by kernel_rfl) (by with_reducible apply Keeps.drew; with_reducible assumption) rfl ?_
      intro K T hK hT hT'
      simp only [List.map] at hK ⊢
      go_wp2_with (first
        | (apply SeqD.skip; rfl; simp only [Act.put, List.setIfInBounds_toArray, List.set_cons_zero, List.set_cons_succ])
        | (apply SeqD.call; rfl; rfl; (intro w hw; obtain ⟨h1, h2, h3, h4⟩ := hT _ hw; simp only [cellsAre_cons, cellsAre_nil, and_true] at h4; go_simp; exact ⟨rfl, rfl⟩); (intro w hw; obtain ⟨h1, h2, h3, h4⟩ := hT _ hw; simp only [cellsAre_cons, cellsAre_nil, and_true] at h4; (first | fail)); simp only [Act.put, List.setIfInBounds_toArray, List.set_cons_zero, List.set_cons_succ])
        | (apply SeqD.pure; rfl; (intro w hw; obtain ⟨h1, h2, h3, h4⟩ := hT _ hw; simp only [cellsAre_cons, cellsAre_nil, and_true] at h4; go_simp; with_reducible rfl); simp only [Act.put, List.setIfInBounds_toArray, List.set_cons_zero, List.set_cons_succ])
        | (apply SeqD.split; rfl; rfl; all_goals (intro hc; simp only [hc]; try simp only [beq_iff_eq, decide_eq_true_eq, beq_eq_false_iff_ne, decide_eq_false_iff_not, bne_iff_ne, ne_eq, Bool.not_eq_true', Bool.not_eq_false', Int.not_le, Int.not_lt, bne_eq_false_iff_eq] at hc)))
      all_goals (apply SeqD.nil; refine hK _ ?_; clear h1 h2 h3 h4; intro w hw; obtain ⟨h1, h2, h3, h4⟩ := id hw; simp only [cellsAre_cons, cellsAre_nil, and_true] at h4; clear hT hT' hK)
      all_goals go_wp2
      all_goals first
        | (go_ret; refine ⟨ret_int ?_, h1⟩; rw [errOf, if_neg]; rw [HO.out, decide_eq_true_eq]; omega)
        | (go_roundw; (case rel => exact ⟨3, by omega, by go_num, by omega, hw.sub (by omega) (by simp [List.forall_mem_cons])⟩); (case measure => simp [intOf]))
    · have hk' := hk
      obtain ⟨h1, h2, h3, h4⟩ := hk'
      simp only [cellsAre_cons, cellsAre_nil, and_true] at h4
      go_wp2_with fail
      refine abs_code (fun w' => Keeps (wr.heap.size + 1) ([(⟨wr.heap.size, 0, none⟩, .pointer (some ⟨w.heap.size, 3, none⟩)), (⟨wr.heap.size, 1, none⟩, .int .i64 1), (⟨wr.heap.size, 2, none⟩, .int .i64 4)] ++ [(⟨w.heap.size, 0, none⟩, .int .i64 x0), (⟨w.heap.size, 1, none⟩, .int .i64 x1), (⟨w.heap.size, 2, none⟩, .int .i64 x2), (⟨w.heap.size, 3, none⟩, .int .i64 x3), (⟨w.heap.size, 4, none⟩, .int .i64 x4), (⟨w.heap.size + 1, 0, none⟩, .pointer (some ⟨w.heap.size, 0, none⟩)), (⟨w.heap.size + 1, 1, none⟩, .int .i64 1), (⟨w.heap.size + 1, 2, none⟩, .int .i64 2147483647), (⟨w.heap.size + 1, 3, none⟩, .pointer (some ⟨w.heap.size, 1, none⟩)), (⟨w.heap.size + 1, 4, none⟩, .int .i64 0), (⟨w.heap.size + 1, 5, none⟩, .int .i64 3), (⟨w.heap.size + 1, 6, none⟩, .pointer (some ⟨w.heap.size, 2, none⟩)), (⟨w.heap.size + 1, 7, none⟩, .int .i64 (-1)), (⟨w.heap.size + 1, 8, none⟩, .int .i64 2147483647), (⟨w.heap.size + 1, 9, none⟩, .pointer (some ⟨w.heap.size, 3, none⟩)), (⟨w.heap.size + 1, 10, none⟩, .int .i64 1), (⟨w.heap.size + 1, 11, none⟩, .int .i64 4), (⟨w.heap.size + 1, 12, none⟩, .pointer (some ⟨w.heap.size, 4, none⟩)), (⟨w.heap.size + 1, 13, none⟩, .int .i64 (-1048576)), (⟨w.heap.size + 1, 14, none⟩, .int .i64 1048576)]) w w') (Keeps.more (B := w.heap.size + 2) (L := [(⟨w.heap.size, 0, none⟩, .int .i64 x0), (⟨w.heap.size, 1, none⟩, .int .i64 x1), (⟨w.heap.size, 2, none⟩, .int .i64 x2), (⟨w.heap.size, 3, none⟩, .int .i64 x3), (⟨w.heap.size, 4, none⟩, .int .i64 x4), (⟨w.heap.size + 1, 0, none⟩, .pointer (some ⟨w.heap.size, 0, none⟩)), (⟨w.heap.size + 1, 1, none⟩, .int .i64 1), (⟨w.heap.size + 1, 2, none⟩, .int .i64 2147483647), (⟨w.heap.size + 1, 3, none⟩, .pointer (some ⟨w.heap.size, 1, none⟩)), (⟨w.heap.size + 1, 4, none⟩, .int .i64 0), (⟨w.heap.size + 1, 5, none⟩, .int .i64 3), (⟨w.heap.size + 1, 6, none⟩, .pointer (some ⟨w.heap.size, 2, none⟩)), (⟨w.heap.size + 1, 7, none⟩, .int .i64 (-1)), (⟨w.heap.size + 1, 8, none⟩, .int .i64 2147483647), (⟨w.heap.size + 1, 9, none⟩, .pointer (some ⟨w.heap.size, 3, none⟩)), (⟨w.heap.size + 1, 10, none⟩, .int .i64 1), (⟨w.heap.size + 1, 11, none⟩, .int .i64 4), (⟨w.heap.size + 1, 12, none⟩, .pointer (some ⟨w.heap.size, 4, none⟩)), (⟨w.heap.size + 1, 13, none⟩, .int .i64 (-1048576)), (⟨w.heap.size + 1, 14, none⟩, .int .i64 1048576)]) (by repeat (first | with_reducible assumption | with_reducible apply Keeps.drew | with_reducible apply Keeps.alloc)) (by omega) (by simp) (by simp [List.forall_mem_cons]) (by simp [cellsAre_cons, cellsAre_nil, go_sem])) ?_
      intro w2 hk2
      clear hk h1 h3 h4
      generalize wr.heap.size = b at *
      simp only [List.cons_append, List.nil_append] at hk2
      have hB := h2
      clear h2
      obtain ⟨h1, h2, h3, h4⟩ := id hk2
      simp only [cellsAre_cons, cellsAre_nil, and_true] at h4
      refine wp_region_all (fun w' => Keeps (b + 1) [(⟨b, 0, none⟩, .pointer (some ⟨w.heap.size, 3, none⟩)), (⟨b, 1, none⟩, .int .i64 1), (⟨b, 2, none⟩, .int .i64 4), (⟨w.heap.size, 0, none⟩, .int .i64 x0), (⟨w.heap.size, 1, none⟩, .int .i64 x1), (⟨w.heap.size, 2, none⟩, .int .i64 x2), (⟨w.heap.size, 3, none⟩, .int .i64 x3), (⟨w.heap.size, 4, none⟩, .int .i64 x4), (⟨w.heap.size + 1, 0, none⟩, .pointer (some ⟨w.heap.size, 0, none⟩)), (⟨w.heap.size + 1, 1, none⟩, .int .i64 1), (⟨w.heap.size + 1, 2, none⟩, .int .i64 2147483647), (⟨w.heap.size + 1, 3, none⟩, .pointer (some ⟨w.heap.size, 1, none⟩)), (⟨w.heap.size + 1, 4, none⟩, .int .i64 0), (⟨w.heap.size + 1, 5, none⟩, .int .i64 3), (⟨w.heap.size + 1, 6, none⟩, .pointer (some ⟨w.heap.size, 2, none⟩)), (⟨w.heap.size + 1, 7, none⟩, .int .i64 (-1)), (⟨w.heap.size + 1, 8, none⟩, .int .i64 2147483647), (⟨w.heap.size + 1, 9, none⟩, .pointer (some ⟨w.heap.size, 3, none⟩)), (⟨w.heap.size + 1, 10, none⟩, .int .i64 1), (⟨w.heap.size + 1, 11, none⟩, .int .i64 4), (⟨w.heap.size + 1, 12, none⟩, .pointer (some ⟨w.heap.size, 4, none⟩)), (⟨w.heap.size + 1, 13, none⟩, .int .i64 (-1048576)), (⟨w.heap.size + 1, 14, none⟩, .int .i64 1048576)] w w') (by kernel_rfl) (by kernel_rfl) (by with_reducible apply Keeps.drew; with_reducible assumption) rfl ?_
      intro K T hK hT hT'
      simp only [List.map] at hK ⊢
      go_wp2_with (first
        | (apply SeqD.skip; rfl; simp only [Act.put, List.setIfInBounds_toArray, List.set_cons_zero, List.set_cons_succ])
        | (apply SeqD.call; rfl; rfl; (intro w hw; obtain ⟨h1, h2, h3, h4⟩ := hT _ hw; simp only [cellsAre_cons, cellsAre_nil, and_true] at h4; go_simp; exact ⟨rfl, rfl⟩); (intro w hw; obtain ⟨h1, h2, h3, h4⟩ := hT _ hw; simp only [cellsAre_cons, cellsAre_nil, and_true] at h4; (first | fail)); simp only [Act.put, List.setIfInBounds_toArray, List.set_cons_zero, List.set_cons_succ])
        | (apply SeqD.pure; rfl; (intro w hw; obtain ⟨h1, h2, h3, h4⟩ := hT _ hw; simp only [cellsAre_cons, cellsAre_nil, and_true] at h4; go_simp; with_reducible rfl); simp only [Act.put, List.setIfInBounds_toArray, List.set_cons_zero, List.set_cons_succ])
        | (apply SeqD.split; rfl; rfl; all_goals (intro hc; simp only [hc]; try simp only [beq_iff_eq, decide_eq_true_eq, beq_eq_false_iff_ne, decide_eq_false_iff_not, bne_iff_ne, ne_eq, Bool.not_eq_true', Bool.not_eq_false', Int.not_le, Int.not_lt, bne_eq_false_iff_eq] at hc)))
      all_goals (apply SeqD.nil; refine hK _ ?_; clear h1 h2 h3 h4; intro w hw; obtain ⟨h1, h2, h3, h4⟩ := id hw; simp only [cellsAre_cons, cellsAre_nil, and_true] at h4; clear hT hT' hK)
      all_goals go_wp2
      all_goals first
        | (go_ret; refine ⟨ret_int ?_, h1⟩; rw [errOf, if_neg]; rw [HO.out, decide_eq_true_eq]; omega)
        | (go_roundw; (case rel => exact ⟨4, by omega, by go_num, by omega, hw.sub (by omega) (by simp [List.forall_mem_cons])⟩); (case measure => simp [intOf]))
    · have hk' := hk
      obtain ⟨h1, h2, h3, h4⟩ := hk'
      simp only [cellsAre_cons, cellsAre_nil, and_true] at h4
      go_wp2_with fail
      refine abs_code (fun w' => Keeps (wr.heap.size + 1) ([(⟨wr.heap.size, 0, none⟩, .pointer (some ⟨w.heap.size, 4, none⟩)), (⟨wr.heap.size, 1, none⟩, .int .i64 (-1048576)), (⟨wr.heap.size, 2, none⟩, .int .i64 1048576)] ++ [(⟨w.heap.size, 0, none⟩, .int .i64 x0), (⟨w.heap.size, 1, none⟩, .int .i64 x1), (⟨w.heap.size, 2, none⟩, .int .i64 x2), (⟨w.heap.size, 3, none⟩, .int .i64 x3), (⟨w.heap.size, 4, none⟩, .int .i64 x4), (⟨w.heap.size + 1, 0, none⟩, .pointer (some ⟨w.heap.size, 0, none⟩)), (⟨w.heap.size + 1, 1, none⟩, .int .i64 1), (⟨w.heap.size + 1, 2, none⟩, .int .i64 2147483647), (⟨w.heap.size + 1, 3, none⟩, .pointer (some ⟨w.heap.size, 1, none⟩)), (⟨w.heap.size + 1, 4, none⟩, .int .i64 0), (⟨w.heap.size + 1, 5, none⟩, .int .i64 3), (⟨w.heap.size + 1, 6, none⟩, .pointer (some ⟨w.heap.size, 2, none⟩)), (⟨w.heap.size + 1, 7, none⟩, .int .i64 (-1)), (⟨w.heap.size + 1, 8, none⟩, .int .i64 2147483647), (⟨w.heap.size + 1, 9, none⟩, .pointer (some ⟨w.heap.size, 3, none⟩)), (⟨w.heap.size + 1, 10, none⟩, .int .i64 1), (⟨w.heap.size + 1, 11, none⟩, .int .i64 4), (⟨w.heap.size + 1, 12, none⟩, .pointer (some ⟨w.heap.size, 4, none⟩)), (⟨w.heap.size + 1, 13, none⟩, .int .i64 (-1048576)), (⟨w.heap.size + 1, 14, none⟩, .int .i64 1048576)]) w w') (Keeps.more (B := w.heap.size + 2) (L := [(⟨w.heap.size, 0, none⟩, .int .i64 x0), (⟨w.heap.size, 1, none⟩, .int .i64 x1), (⟨w.heap.size, 2, none⟩, .int .i64 x2), (⟨w.heap.size, 3, none⟩, .int .i64 x3), (⟨w.heap.size, 4, none⟩, .int .i64 x4), (⟨w.heap.size + 1, 0, none⟩, .pointer (some ⟨w.heap.size, 0, none⟩)), (⟨w.heap.size + 1, 1, none⟩, .int .i64 1), (⟨w.heap.size + 1, 2, none⟩, .int .i64 2147483647), (⟨w.heap.size + 1, 3, none⟩, .pointer (some ⟨w.heap.size, 1, none⟩)), (⟨w.heap.size + 1, 4, none⟩, .int .i64 0), (⟨w.heap.size + 1, 5, none⟩, .int .i64 3), (⟨w.heap.size + 1, 6, none⟩, .pointer (some ⟨w.heap.size, 2, none⟩)), (⟨w.heap.size + 1, 7, none⟩, .int .i64 (-1)), (⟨w.heap.size + 1, 8, none⟩, .int .i64 2147483647), (⟨w.heap.size + 1, 9, none⟩, .pointer (some ⟨w.heap.size, 3, none⟩)), (⟨w.heap.size + 1, 10, none⟩, .int .i64 1), (⟨w.heap.size + 1, 11, none⟩, .int .i64 4), (⟨w.heap.size + 1, 12, none⟩, .pointer (some ⟨w.heap.size, 4, none⟩)), (⟨w.heap.size + 1, 13, none⟩, .int .i64 (-1048576)), (⟨w.heap.size + 1, 14, none⟩, .int .i64 1048576)]) (by repeat (first | with_reducible assumption | with_reducible apply Keeps.drew | with_reducible apply Keeps.alloc)) (by omega) (by simp) (by simp [List.forall_mem_cons]) (by simp [cellsAre_cons, cellsAre_nil, go_sem])) ?_
      intro w2 hk2
      clear hk h1 h3 h4
      generalize wr.heap.size = b at *
      simp only [List.cons_append, List.nil_append] at hk2
      have hB := h2
      clear h2
      obtain ⟨h1, h2, h3, h4⟩ := id hk2
      simp only [cellsAre_cons, cellsAre_nil, and_true] at h4
      refine wp_region_all (fun w' => Keeps (b + 1) [(⟨b, 0, none⟩, .pointer (some ⟨w.heap.size, 4, none⟩)), (⟨b, 1, none⟩, .int .i64 (-1048576)), (⟨b, 2, none⟩, .int .i64 1048576), (⟨w.heap.size, 0, none⟩, .int .i64 x0), (⟨w.heap.size, 1, none⟩, .int .i64 x1), (⟨w.heap.size, 2, none⟩, .int .i64 x2), (⟨w.heap.size, 3, none⟩, .int .i64 x3), (⟨w.heap.size, 4, none⟩, .int .i64 x4), (⟨w.heap.size + 1, 0, none⟩, .pointer (some ⟨w.heap.size, 0, none⟩)), (⟨w.heap.size + 1, 1, none⟩, .int .i64 1), (⟨w.heap.size + 1, 2, none⟩, .int .i64 2147483647), (⟨w.heap.size + 1, 3, none⟩, .pointer (some ⟨w.heap.size, 1, none⟩)), (⟨w.heap.size + 1, 4, none⟩, .int .i64 0), (⟨w.heap.size + 1, 5, none⟩, .int .i64 3), (⟨w.heap.size + 1, 6, none⟩, .pointer (some ⟨w.heap.size, 2, none⟩)), (⟨w.heap.size + 1, 7, none⟩, .int .i64 (-1)), (⟨w.heap.size + 1, 8, none⟩, .int .i64 2147483647), (⟨w.heap.size + 1, 9, none⟩, .pointer (some ⟨w.heap.size, 3, none⟩)), (⟨w.heap.size + 1, 10, none⟩, .int .i64 1), (⟨w.heap.size + 1, 11, none⟩, .int .i64 4), (⟨w.heap.size + 1, 12, none⟩, .pointer (some ⟨w.heap.size, 4, none⟩)), (⟨w.heap.size + 1, 13, none⟩, .int .i64 (-1048576)), (⟨w.heap.size + 1, 14, none⟩, .int .i64 1048576)] w w') (by kernel_rfl) (by kernel_rfl) (by with_reducible apply Keeps.drew; with_reducible assumption) rfl ?_
      intro K T hK hT hT'
      simp only [List.map] at hK ⊢
      go_wp2_with (first
        | (apply SeqD.skip; rfl; simp only [Act.put, List.setIfInBounds_toArray, List.set_cons_zero, List.set_cons_succ])
        | (apply SeqD.call; rfl; rfl; (intro w hw; obtain ⟨h1, h2, h3, h4⟩ := hT _ hw; simp only [cellsAre_cons, cellsAre_nil, and_true] at h4; go_simp; exact ⟨rfl, rfl⟩); (intro w hw; obtain ⟨h1, h2, h3, h4⟩ := hT _ hw; simp only [cellsAre_cons, cellsAre_nil, and_true] at h4; (first | fail)); simp only [Act.put, List.setIfInBounds_toArray, List.set_cons_zero, List.set_cons_succ])
        | (apply SeqD.pure; rfl; (intro w hw; obtain ⟨h1, h2, h3, h4⟩ := hT _ hw; simp only [cellsAre_cons, cellsAre_nil, and_true] at h4; go_simp; with_reducible rfl); simp only [Act.put, List.setIfInBounds_toArray, List.set_cons_zero, List.set_cons_succ])
        | (apply SeqD.split; rfl; rfl; all_goals (intro hc; simp only [hc]; try simp only [beq_iff_eq, decide_eq_true_eq, beq_eq_false_iff_ne, decide_eq_false_iff_not, bne_iff_ne, ne_eq, Bool.not_eq_true', Bool.not_eq_false', Int.not_le, Int.not_lt, bne_eq_false_iff_eq] at hc)))
      all_goals (apply SeqD.nil; refine hK _ ?_; clear h1 h2 h3 h4; intro w hw; obtain ⟨h1, h2, h3, h4⟩ := id hw; simp only [cellsAre_cons, cellsAre_nil, and_true] at h4; clear hT hT' hK)
      all_goals go_wp2
      all_goals first
        | (go_ret; refine ⟨ret_int ?_, h1⟩; rw [errOf, if_neg]; rw [HO.out, decide_eq_true_eq]; omega)
        | (go_roundw; (case rel => exact ⟨5, by omega, by go_num, by omega, hw.sub (by omega) (by simp [List.forall_mem_cons])⟩); (case measure => simp [intOf]))
    · have hk' := hk
      obtain ⟨h1, h2, h3, h4⟩ := hk'
      simp only [cellsAre_cons, cellsAre_nil, and_true] at h4
      go_wp2
      go_ret
      refine ⟨ret_int ?_, h1⟩
      rw [errOf, if_pos]
      rw [HO.out, decide_eq_true_eq]
      omega
end Go.Proofs.Ytdphfhenjndkkaa

set_option linter.unusedSimpArgs false
set_option linter.unusedVariables false
set_option maxRecDepth 100000
namespace Go.Wd
open Go Go.RowKit

def setAll : List Value → Nat → List Value → List Value
  | cs, _, [] => cs
  | cs, o, v :: r => setAll (cs.set o v) (o + 1) r
theorem Blk.setCells {g : Nat} {t : TypeId} : ∀ (vs : List Value) (o : Nat) (cs : List Value) (w : World), Blk w g t cs → Blk (w.setCells g o vs) g t (setAll cs o vs)
  | [], _, _, _, h => h
  | v :: r, o, cs, w, h => Blk.setCells r (o + 1) (cs.set o v) (w.setCell ⟨g, o, none⟩ v) (h.set o v)
theorem Blk.setCellsFar {g k : Nat} {t : TypeId} {l : List Value} (hk : k ≠ g) : ∀ (vs : List Value) (o : Nat) (w : World), Blk w k t l → Blk (w.setCells g o vs) k t l
  | [], _, _, h => h
  | v :: r, o, w, h => Blk.setCellsFar hk r (o + 1) (w.setCell ⟨g, o, none⟩ v) (h.far (p := ⟨g, o, none⟩) hk v)
theorem below_setCells' {B g : Nat} (hg : B ≤ g) : ∀ (vs : List Value) (o : Nat) (w0 w : World), Below B w0 w → Below B w0 (w.setCells g o vs)
  | [], _, _, _, h => h
  | v :: r, o, w0, w, h => below_setCells' hg r (o + 1) w0 (w.setCell ⟨g, o, none⟩ v) (h.setCell (p := ⟨g, o, none⟩) hg v)

theorem Blk.range {w : World} {g : Nat} {t : TypeId} {all : List Value} (h : Blk w g t all) {o : Nat} {cs : List Value} (hp : ∀ j, j < cs.length → all[o + j]? = cs[j]?) : w.rangeAt g o cs := fun j v hv => by
  have hj := (List.getElem?_eq_some_iff.1 hv).1
  rw [h.cell (o + j), hp j hj]
  exact hv
theorem exec_load_part {P : Program} {w : World} {o : Oper} {a : Act} (ty : TypeId) (x : Operand) (ho : o.op = .load ty x) (g i : Nat) (hx : a.eval x = .pointer (some ⟨g, i, none⟩))
    (t : TypeId) (all cs : List Value) (hg : Blk w g t all) (hp : ∀ j, j < cs.length → all[i + j]? = cs[j]?) (d : TypeDesc) (hu : P.underlying ty = some d) (hd : d.isRow = true) (hi : (P.info? ty).map (·.size) = some cs.length) :
    (execOp a.eval o).run P w = .ok (.value (.agg cs.toArray)) w := by
  unfold execOp
  simp only [ho, hx, Instr.loadAt, Instr.sureAddr, Sem.run_bind, Sem.run_pure, Result.andThen_ok, run_loadVar_mid w g i ty cs d (hg.range hp) hu hd hi]
theorem exec_load_blk {P : Program} {w : World} {o : Oper} {a : Act} (ty : TypeId) (x : Operand) (ho : o.op = .load ty x) (g : Nat) (hx : a.eval x = .pointer (some ⟨g, 0, none⟩))
    (t : TypeId) (cs : List Value) (hg : Blk w g t cs) (d : TypeDesc) (hu : P.underlying ty = some d) (hd : d.isRow = true) (hi : (P.info? ty).map (·.size) = some cs.length) :
    (execOp a.eval o).run P w = .ok (.value (.agg cs.toArray)) w := exec_load_part ty x ho g 0 hx t cs cs hg (fun j _ => by rw [Nat.zero_add]) d hu hd hi
theorem wpList_load_part {P : Program} {w : World} {ops : Array Oper} {rest : List Oper} {o : Oper} {a : Act} {Q : Exit → Act → World → Prop} (hgd : o.guard = none) (ty : TypeId) (x : Operand) (ho : o.op = .load ty x)
    (g i : Nat) (hx : a.eval x = .pointer (some ⟨g, i, none⟩)) (t : TypeId) (all cs : List Value) (hg : Blk w g t all) (hp : ∀ j, j < cs.length → all[i + j]? = cs[j]?) (d : TypeDesc)
    (hu : P.underlying ty = some d) (hd : d.isRow = true) (hi : (P.info? ty).map (·.size) = some cs.length)
    (h : wpList P ops Q rest (a.put o.dst (.agg cs.toArray)) w) : wpList P ops Q (o :: rest) a w :=
  wpList_load_mid hgd ty x ho g i hx cs d (hg.range hp) hu hd hi h
theorem wpList_store_part {P : Program} {w : World} {ops : Array Oper} {rest : List Oper} {o : Oper} {a : Act} {Q : Exit → Act → World → Prop} (hgd : o.guard = none) (ty : TypeId) (x y : Operand) (ho : o.op = .store ty x y)
    (g i : Nat) (cs : List Value) (hx : a.eval x = .pointer (some ⟨g, i, none⟩)) (hy : a.eval y = .agg cs.toArray) (t : TypeId) (all : List Value) (hg : Blk w g t all) (hl : i + cs.length ≤ all.length)
    (hi : (P.info? ty).map (·.size) = some cs.length) (h1 : ∀ v ∈ cs, v.oneCell' = true)
    (h : ∀ w', Blk w' g t (setAll all i cs) → (∀ B, B ≤ g → Below B w w') → (∀ k T l, k ≠ g → Blk w k T l → Blk w' k T l) → wpList P ops Q rest (a.put o.dst undef) w') : wpList P ops Q (o :: rest) a w := by
  refine wpList_store_mid hgd ty x y ho g i cs.toArray hx hy (fun j hj => ⟨?_, hg.frozen _⟩) (by simpa using hi) (all_oneCell_toArray h1) (h _ (hg.setCells cs i all) (fun B hB => below_setCells' hB cs i w w (Below.refl _ _)) (fun k T l hk hb => hb.setCellsFar hk cs i w))
  rw [hg.cell]
  have : i + j < all.length := by simp at hj; omega
  rw [List.getElem?_eq_getElem this]
  rfl
/-- A guarded operation that is wanted. -/
theorem wpList_wanted {P : Program} {ops : Array Oper} {rest : List Oper} {o : Oper} {a : Act} {w : World} {Q : Exit → Act → World → Prop} (hw : Region.wanted o (yielded ops a.tmps) = true)
    (h : ∀ K : Act → World → Prop, (∀ a w, wpList P ops Q rest a w → K a w) → o.wp P a w K Q) : wpList P ops Q (o :: rest) a w :=
  wpList_step fun K hK => by rw [if_pos hw]; exact h K hK
theorem wpList_load_blk_g {P : Program} {w : World} {ops : Array Oper} {rest : List Oper} {o : Oper} {a : Act} {Q : Exit → Act → World → Prop} (ty : TypeId) (x : Operand) (ho : o.op = .load ty x)
    (hw : Region.wanted o (yielded ops a.tmps) = true) (g : Nat) (hx : a.eval x = .pointer (some ⟨g, 0, none⟩)) (t : TypeId) (cs : List Value) (d : TypeDesc) (hg : Blk w g t cs)
    (hu : P.underlying ty = some d) (hd : (match d with | .struct _ | .array _ _ => true | _ => false) = true) (hi : (P.info? ty).map (·.size) = some cs.length)
    (h : wpList P ops Q rest (a.put o.dst (.agg cs.toArray)) w) : wpList P ops Q (o :: rest) a w :=
  wpList_wanted hw fun _ hK => wp_load_row ty x ho g hx t cs.toArray (0, 0) d hg hu hd (by simpa using hi) (hK _ _ h)
theorem wpList_agg_g {P : Program} {w : World} {ops : Array Oper} {rest : List Oper} {o : Oper} {a : Act} {Q : Exit → Act → World → Prop} {op : BinOp} {t : TypeId} {x y : Operand} {xs ys : Array Value} {v : Value}
    (ho : o.op = .binOp op t x y t) (hw : Region.wanted o (yielded ops a.tmps) = true) (hm : P.eqGuardType P.depth t = false) (hx : a.eval x = .agg xs) (hy : a.eval y = .agg ys) (hrun : (binOp op t (.agg xs) (.agg ys)).run P w = .ok v w)
    (h : wpList P ops Q rest (a.put o.dst v) w) : wpList P ops Q (o :: rest) a w :=
  wpList_wanted hw fun _ hK => by
    unfold Oper.wp execOp
    simp only [ho, hx, hy, Sem.run_bind, run_eqGuard_agg w op t x y xs ys hm, Result.andThen_ok, hrun, Sem.run_pure]
    exact hK _ _ h
theorem wp_store_blk {P : Program} {w : World} {o : Oper} {a : Act} {K : Act → World → Prop} {Q : Exit → Act → World → Prop} (ty : TypeId) (x y : Operand) (ho : o.op = .store ty x y)
    (g : Nat) (cs : List Value) (hx : a.eval x = .pointer (some ⟨g, 0, none⟩)) (hy : a.eval y = .agg cs.toArray) (t : TypeId) (old : List Value) (hg : Blk w g t old)
    (hi : (P.info? ty).map (·.size) = some cs.length) (hold : old.length = cs.length) (h1 : ∀ v ∈ cs, v.oneCell' = true)
    (h : ∀ w', Blk w' g t cs → (∀ B, B ≤ g → Below B w w') → (∀ k T l, k ≠ g → Blk w k T l → Blk w' k T l) → K (a.put o.dst undef) w') : o.wp P a w K Q :=
  wp_store_row ty x y ho g cs.toArray hx hy t old.toArray hg (by simpa using hi) (by simpa using hold)
    (Array.all_eq_true_iff_forall_mem.2 (fun v hv => h1 v (by simpa using hv)))
    (h _ (hg.row cs) (fun B hB => below_setRow (Below.refl B w) hB _) (fun k T l hk hb => hb.rowFar hk _))
end Go.Wd

set_option linter.unusedSimpArgs false
set_option linter.unusedVariables false
set_option maxRecDepth 100000
namespace Go.Proofs.Ytdphfhenjndkkaa
open Go Go.RowKit Go.Sq Go.Wd Go.Arch

theorem okEnt_no {v : Int} {e : Ent} (h : ¬ (1 ≤ e.1 ∧ e.1 ≤ v) ∨ ordOk (ordE e) = false) : okEnt v e = false := by
  unfold okEnt
  rcases h with h | h
  · rw [decide_eq_false h]; rfl
  · rw [h, Bool.and_false]
theorem okLog_no {l : List Ent} {v : Int} {i : Nat} {e : Ent} (he : l[i]? = some e) (h : okEnt v e = false) : okLog l v = false := by
  cases hb : okLog l v
  · rfl
  · have := ((okLog_iff l v).1 hb).2.1 e (List.mem_of_getElem? he)
    rw [h] at this
    cases this
theorem okLog_long {l : List Ent} {v : Int} (h : 64 < l.length) : okLog l v = false := by
  cases hb : okLog l v
  · rfl
  · have := ((okLog_iff l v).1 hb).1
    omega
theorem okLog_all {l : List Ent} {v : Int} (h : ∀ e ∈ l, okEnt v e = true) (hl : l.length ≤ 64) : okLog l v = risesB l := by
  unfold okLog
  rw [decide_eq_true hl, List.all_eq_true.2 h]
  rfl

set_option maxHeartbeats 4000000 in
theorem whole_any (l : List Ent) (A : Option Addr) (c : Nat) (v : Int) (w : World) (ha : Ents w w.heap.size A l) (hl : l.length ≤ 9223372036854775807) :
    Calls Try.prog 62 #[.slice A l.length c, .int .i64 v] w fun e w' => e = .returned (.bool (okLog l v)) ∧ Below w.heap.size w w' := by
  have hw := Below.refl w.heap.size w
  have HE := Lib.hid ha
  clear ha
  go_enter Try.func62, Try.ntmps62
  go_wp2_with fail
  go_loopg [9] l.length (fun q i wr => ∃ (j : Nat), q = l.length - j ∧ j ≤ l.length ∧ i = .int .i64 j ∧ (∀ e ∈ l.take j, okEnt v e = true) ∧ Below w.heap.size w wr)
  case atStart => exact ⟨0, rfl, by omega, rfl, by simp, hw⟩
  case round =>
    clear hw
    obtain ⟨j, hq, hj, rfl, ht, hB⟩ := hrel
    have AA : Aside (gk = l.length - j ∧ ∀ e ∈ l.take j, okEnt v e = true) := ⟨hq, ht⟩
    clear hq ht
    by_cases hlt : j < l.length
    · obtain ⟨b1, o1, x, rfl, hx, FA⟩ := HE.out.at_ hlt
      obtain ⟨q0, q1, q2, q3, q4, q5⟩ := FA _ hB
      have hz := hB.size
      clear FA
      by_cases h1 : x.1 < 1
      · have HN := Lib.hid (okLog_no hx.out (okEnt_no (v := v) (.inl (by omega))))
        go_wp2_with fail
        go_ret
        rw [HN.out]
        exact ⟨rfl, by (repeat (first | with_reducible apply Below.drew | with_reducible refine Below.setCell ?_ (by first | exact Nat.le_refl _ | (simp; done) | (simp; omega) | omega) _ | with_reducible refine Below.alloc ?_ (by first | exact Nat.le_refl _ | (simp; done) | (simp; omega) | omega) _ | with_reducible exact Below.refl _ _ | with_reducible assumption))⟩
      by_cases h2 : v < x.1
      · have HN := Lib.hid (okLog_no hx.out (okEnt_no (v := v) (.inl (by omega))))
        go_wp2_with fail
        go_ret
        rw [HN.out]
        exact ⟨rfl, by (repeat (first | with_reducible apply Below.drew | with_reducible refine Below.setCell ?_ (by first | exact Nat.le_refl _ | (simp; done) | (simp; omega) | omega) _ | with_reducible refine Below.alloc ?_ (by first | exact Nat.le_refl _ | (simp; done) | (simp; omega) | omega) _ | with_reducible exact Below.refl _ _ | with_reducible assumption))⟩
      go_wp2_with fail
      refine (check_any _ _ _ _ _ _).mono ?_
      rintro e w1 ⟨rfl, hb⟩
      have hB1 := below_trans (hB.alloc hz _) hb (by simp; omega)
      clear hb hB
      cases hO : ordOk (ordE x) with
      | false =>
        have HN := Lib.hid (okLog_no hx.out (okEnt_no (v := v) (.inr hO)))
        have hO' : ordOk ⟨x.2.1, x.2.2.1, x.2.2.2.1, x.2.2.2.2.1, x.2.2.2.2.2⟩ = false := hO
        rw [hO']
        simp only [errOf]
        go_wp2_with fail
        go_ret
        rw [HN.out]
        exact ⟨rfl, hB1⟩
      | true =>
        have HT : Hid (∀ e ∈ l.take (j + 1), okEnt v e = true) := Lib.hid (fun e he => by
          rw [List.take_add_one, hx.out] at he
          rcases List.mem_append.1 he with he | he
          · exact AA.out.2 e he
          · obtain rfl : e = x := by simpa using he
            unfold okEnt
            rw [hO, decide_eq_true (by omega)]
            rfl)
        have hO' : ordOk ⟨x.2.1, x.2.2.1, x.2.2.2.1, x.2.2.2.2.1, x.2.2.2.2.2⟩ = true := hO
        rw [hO']
        simp only [errOf]
        go_wp2_with fail
        go_roundg (l.length - (j + 1))
        case measure => have hkk := AA.out.1; omega
        case rel => exact ⟨j + 1, rfl, by omega, by go_num, HT.out, hB1⟩
    · obtain rfl : j = l.length := by omega
      have hall := AA.out.2
      rw [List.take_length] at hall
      have hz := hB.size
      by_cases h64 : 64 < l.length
      · have HN := Lib.hid (okLog_long (v := v) h64)
        clear hall
        go_wp2_with fail
        go_ret
        rw [HN.out]
        exact ⟨rfl, hB⟩
      · have h64' : l.length ≤ 64 := by omega
        have HN := Lib.hid (okLog_all hall h64')
        clear hall
        go_wp2_with fail
        refine (rising_any l A c _ ((HE.out.below hB).more hz) hl).mono ?_
        rintro e w1 ⟨rfl, hb⟩
        have hB1 := below_trans hB hb hz
        clear hb
        go_wp2_with fail
        go_ret
        rw [HN.out]
        exact ⟨rfl, hB1⟩

theorem mayR_no {r : RegS} (h : ¬ ((0 ≤ r.view ∧ r.view ≤ r.prom ∧ r.prom ≤ 1048576) ∧ okLog r.log r.view = true ∧ 0 ≤ r.com ∧ r.com ≤ r.log.length)) : mayR r = false := by
  cases hb : mayR r
  · rfl
  · exact absurd ((mayR_iff r).1 hb) h

set_option maxHeartbeats 4000000 in
theorem check15_any (r : RegS) (sl : SlcE) (w : World) (hl : LogAt w w.heap.size sl r.log) :
    Calls Try.prog 36 #[.agg (rgv r sl).toArray] w fun e w' => e = .returned (.bool (mayR r)) ∧ Below w.heap.size w w' := by
  obtain ⟨p, v, lg, k⟩ := r
  obtain ⟨A, n, c⟩ := sl
  obtain rfl : n = lg.length := hl.1
  have hc2 : lg.length ≤ 9223372036854775807 := Nat.le_trans hl.2.1 hl.2.2.1
  have HE := Lib.hid hl.2.2.2
  clear hl
  unfold rgv
  have hw := Below.refl w.heap.size w
  have hb0 : Below w.heap.size w (w.alloc (.cells #[.int .i64 p, .int .i64 v, .slice A lg.length c, .int .i64 k] 37)) := hw.alloc (Nat.le_refl _) _
  by_cases h1 : 0 ≤ v
  case neg =>
    have HN := Lib.hid (mayR_no (r := ⟨p, v, lg, k⟩) (fun h => h1 h.1.1))
    go_enter Try.func36, Try.ntmps36
    go_wp2_with fail
    go_ret
    rw [HN.out]
    exact ⟨rfl, hb0⟩
  by_cases h2 : v ≤ p
  case neg =>
    have HN := Lib.hid (mayR_no (r := ⟨p, v, lg, k⟩) (fun h => h2 h.1.2.1))
    go_enter Try.func36, Try.ntmps36
    go_wp2_with fail
    go_ret
    rw [HN.out]
    exact ⟨rfl, hb0⟩
  by_cases h3 : p ≤ 1048576
  case neg =>
    have HN := Lib.hid (mayR_no (r := ⟨p, v, lg, k⟩) (fun h => h3 h.1.2.2))
    go_enter Try.func36, Try.ntmps36
    go_wp2_with fail
    go_ret
    rw [HN.out]
    exact ⟨rfl, hb0⟩
  have HH := Lib.hid (And.intro hb0 (Blk.new w 37 [.int .i64 p, .int .i64 v, .slice A lg.length c, .int .i64 k]))
  clear hb0
  go_enter Try.func36, Try.ntmps36
  go_wp2_with fail
  refine (whole_any lg A c v _ ((HE.out.below HH.out.1).more HH.out.1.size) hc2).mono ?_
  rintro e w1 ⟨rfl, hb⟩
  have hw1 := below_trans HH.out.1 hb HH.out.1.size
  have B1 := HH.out.2.keep hb
  clear hb HH
  cases hO : okLog lg v with
  | false =>
    have HN := Lib.hid (mayR_no (r := ⟨p, v, lg, k⟩) (fun h => by have := h.2.1; dsimp only at this; rw [hO] at this; cases this))
    clear hO
    go_wp2_with fail
    go_ret
    rw [HN.out]
    exact ⟨rfl, hw1⟩
  | true =>
    have c2 := B1.cell 2
    have c3 := B1.cell 3
    simp at c2 c3
    have HO := Lib.hid hO
    clear hO
    by_cases h4 : 0 ≤ k
    case neg =>
      have HN := Lib.hid (mayR_no (r := ⟨p, v, lg, k⟩) (fun h => h4 h.2.2.1))
      go_wp2_with fail
      go_ret
      rw [HN.out]
      exact ⟨rfl, hw1⟩
    by_cases h5 : k ≤ (lg.length : Int)
    case neg =>
      have HN := Lib.hid (mayR_no (r := ⟨p, v, lg, k⟩) (fun h => h5 h.2.2.2))
      have d5 : decide (k ≤ (lg.length : Int)) = false := decide_eq_false h5
      go_wp2_with fail
      go_ret
      rw [HN.out]
      exact ⟨rfl, hw1⟩
    have HN := Lib.hid ((mayR_iff ⟨p, v, lg, k⟩).2 ⟨⟨h1, h2, h3⟩, HO.out, h4, h5⟩)
    have d5 : decide (k ≤ (lg.length : Int)) = true := decide_eq_true h5
    go_wp2_with fail
    go_ret
    rw [HN.out]
    exact ⟨rfl, hw1⟩
end Go.Proofs.Ytdphfhenjndkkaa

set_option linter.unusedSimpArgs false
set_option linter.unusedVariables false
set_option maxRecDepth 100000
namespace Go.Proofs.Ytdphfhenjndkkaa
open Go Go.RowKit Go.Sq Go.Wd Go.Arch

theorem LogAt.none_nil {w : World} {B : Nat} {l : List Ent} {n c : Nat} (h : LogAt w B (none, n, c) l) : l = [] := by
  rcases Nat.eq_zero_or_pos l.length with h0 | h0
  · exact List.eq_nil_of_length_eq_zero h0
  · obtain ⟨b, o, ha, _⟩ := h.2.2.2 h0
    cases ha
theorem Row.log {w : World} {B : Nat} {v : Value} {l : List Ent} (h : Row w B v l) : ∃ sl : SlcE, v = .slice sl.1 sl.2.1 sl.2.2 ∧ LogAt w w.heap.size sl l := by
  obtain ⟨A, c, rfl, h1, h2, h3⟩ := h.form
  exact ⟨(A, l.length, c), rfl, rfl, h1, h2, h3⟩
theorem Row.far {w w' : World} {B k : Nat} {v : Value} {l : List Ent} (h : Row w B v l) (hg : w.grownBy w' (some k)) (hk : k < B) : Row w' B v l := h.kept hg (by
  cases hv : v.ownBlock with
  | none => exact .inl rfl
  | some g => exact .inr (fun e => by have := (h.lt g hv).1; cases e; omega))
theorem Row.base {w : World} {B B' : Nat} {v : Value} {l : List Ent} (h : Row w B v l) (hB : B' ≤ B) : Row w B' v l := by
  refine ⟨h.1, ?_⟩
  rcases h.2 with h' | ⟨g, cap, cur, h1, h2, r⟩
  · exact .inl h'
  · exact .inr ⟨g, cap, cur, h1, Nat.le_trans hB h2, r⟩
theorem eql_nil (A : Option Addr) (n c : Nat) (w : World) : (binOp .eql 35 (.slice A n c) (.slice none 0 0)).run Try.prog w = .ok (.bool A.isNone) w := by
  have h : (Op.equalIn (9999 + 1) 35 (.slice A n c) (.slice none 0 0)).run Try.prog w = .ok A.isNone w := by
    rw [Op.equalIn]
    cases A <;> simp [run_underlying Try.underlying35]
  have h2 : Op.equal 35 (.slice A n c) (.slice none 0 0) = Op.equalIn (9999 + 1) 35 (.slice A n c) (.slice none 0 0) := rfl
  simp [binOp, h2, h]
theorem Row.nil (w : World) (B : Nat) : Row w B (.slice none 0 0) [] := World.ownsRow_nil _ _ _ _

set_option maxHeartbeats 2000000 in
theorem clone_any (l : List Ent) (A : Option Addr) (c : Nat) (w : World) (hl : LogAt w w.heap.size (A, l.length, c) l) (h2 : l.length ≤ 2000) :
    Calls Try.prog 49 #[.slice A l.length c] w fun e w' => ∃ v, e = .returned v ∧ Row w' w.heap.size v l ∧ Below w.heap.size w w' := by
  have hw := Below.refl w.heap.size w
  cases A with
  | none =>
    have hn := hl.none_nil
    subst hn
    have hq := eql_nil none 0 c w
    go_enter Try.func49, Try.ntmps49
    go_wp2_with fail
    go_ret
    exact ⟨_, rfl, Row.nil _ _, hw⟩
  | some a =>
    obtain ⟨v', w', hrun, hR, hb⟩ := copy_run l (some a) c w hl.2.2.2 h2
    have HH := Lib.hid (And.intro hR hb)
    have hq := eql_nil (some a) l.length c w
    clear hR hb hl
    go_enter Try.func49, Try.ntmps49
    go_wp2_with (at_builtin; refine wpList_app rfl (by rfl) (by rfl) (by rfl) hrun ?_)
    go_ret
    exact ⟨_, rfl, HH.out⟩

theorem rg_info : (Try.prog.info? 37).map (·.size) = some 4 := by kernel_rfl
theorem rc_info : (Try.prog.info? 53).map (·.size) = some 8 := by kernel_rfl

set_option maxHeartbeats 2000000 in
theorem regclone_any (r : RegS) (sl : SlcE) (w : World) (hl : LogAt w w.heap.size sl r.log) (h2 : r.log.length ≤ 2000) :
    Calls Try.prog 47 #[.agg (rgv r sl).toArray] w fun e w' => ∃ sl' : SlcE, e = .returned (.agg (rgv r sl').toArray) ∧ Row w' w.heap.size (.slice sl'.1 sl'.2.1 sl'.2.2) r.log ∧ Below w.heap.size w w' := by
  obtain ⟨p, v, lg, k⟩ := r
  obtain ⟨A, n, c⟩ := sl
  obtain rfl : n = lg.length := hl.1
  unfold rgv
  dsimp only at h2
  have hb0 : Below w.heap.size w ((w.alloc (.cells #[.int .i64 p, .int .i64 v, .slice A lg.length c, .int .i64 k] 37)).alloc (.cells #[.int .i64 0, .int .i64 0, .slice none 0 0, .int .i64 0] 37)) := ((Below.refl _ _).alloc (Nat.le_refl _) _).alloc (by simp) _
  have B0 := (Blk.new w 37 [.int .i64 p, .int .i64 v, .slice A lg.length c, .int .i64 k]).alloc (.cells #[.int .i64 0, .int .i64 0, .slice none 0 0, .int .i64 0] 37)
  have B1 := Blk.new1 w (.cells #[.int .i64 p, .int .i64 v, .slice A lg.length c, .int .i64 k] 37) 37 [.int .i64 0, .int .i64 0, .slice none 0 0, .int .i64 0]
  have HH := Lib.hid (And.intro hb0 (And.intro B0 (And.intro B1 (hl.keep hb0))))
  clear hb0 B0 B1 hl
  go_enter Try.func47, Try.ntmps47
  go_wp2_with fail
  refine (clone_any lg A c _ HH.out.2.2.2 h2).mono ?_
  rintro e w1 ⟨vl, rfl, hR, hb⟩
  have hw1 := below_trans HH.out.1 hb HH.out.1.size
  have C0 := HH.out.2.1.keep hb
  have C1 := HH.out.2.2.1.keep hb
  have hR' := hR
  obtain ⟨sl', rfl, hL⟩ := hR.log
  clear hb HH
  have d2 := C0.cell 2
  have fr := C0.frozen
  have fr1 := C1.frozen
  have l0 := C0.lt
  have l1 := C1.lt
  have c0 := C0.cell 0
  have c1 := C0.cell 1
  have c3 := C0.cell 3
  have e0 := C1.cell 0
  have e1 := C1.cell 1
  have e2 := C1.cell 2
  have e3 := C1.cell 3
  simp at d2 c0 c1 c3 e0 e1 e2 e3
  go_wp2_with fail
  apply ret_of
  · simp only [results, Try.results47]
    go_simp
    with_reducible rfl
  refine ⟨rfl, sl', rfl, ?_, ?_⟩
  · have g1 : w1.grownBy (w1.setCell ⟨w.heap.size, 2, none⟩ (.slice sl'.1 sl'.2.1 sl'.2.2)) (some w.heap.size) := by (repeat (first | with_reducible apply only_drew | with_reducible refine only_setCell ?_ (by first | exact Or.inl rfl | (right; simp; done) | (right; simp; omega) | (right; omega)) _ | with_reducible refine only_alloc ?_ _ | with_reducible exact World.grownBy.refl _ _ | with_reducible assumption))
    have R1 := hR.far g1 (by simp; omega)
    generalize w1.setCell ⟨w.heap.size, 2, none⟩ (.slice sl'.1 sl'.2.1 sl'.2.2) = w2 at R1 ⊢
    have g2 : w2.grownBy ((((w2.setCell ⟨w.heap.size + 1, 0, none⟩ (.int .i64 p)).setCell ⟨w.heap.size + 1, 1, none⟩ (.int .i64 v)).setCell ⟨w.heap.size + 1, 2, none⟩ (.slice sl'.1 sl'.2.1 sl'.2.2)).setCell ⟨w.heap.size + 1, 3, none⟩ (.int .i64 k)) (some (w.heap.size + 1)) := by (repeat (first | with_reducible apply only_drew | with_reducible refine only_setCell ?_ (by first | exact Or.inl rfl | (right; simp; done) | (right; simp; omega) | (right; omega)) _ | with_reducible refine only_alloc ?_ _ | with_reducible exact World.grownBy.refl _ _ | with_reducible assumption))
    exact Row.base (Row.far R1 g2 (by simp)) (by simp; omega)
  · (repeat (first | with_reducible apply Below.drew | with_reducible refine Below.setCell ?_ (by first | exact Nat.le_refl _ | (simp; done) | (simp; omega) | omega) _ | with_reducible refine Below.alloc ?_ (by first | exact Nat.le_refl _ | (simp; done) | (simp; omega) | omega) _ | with_reducible exact Below.refl _ _ | with_reducible assumption))
end Go.Proofs.Ytdphfhenjndkkaa

set_option linter.unusedSimpArgs false
set_option linter.unusedVariables false
set_option maxRecDepth 100000
namespace Go.Proofs.Ytdphfhenjndkkaa
open Go Go.RowKit Go.Sq Go.Wd Go.Arch

theorem viewR_no {r : RegS} {x : RecS} (h : ¬ ((1 ≤ x.epoch ∧ r.prom ≤ x.epoch ∧ x.epoch ≤ 1048576 ∧ x.from_ = fromR r x) ∧ okLog (logR r x) x.epoch = true ∧ r.log.take r.com.toNat <+: logR r x)) : viewR r x = none := by
  unfold viewR; rw [if_neg h]
theorem viewR_yes {r : RegS} {x : RecS} (h : (1 ≤ x.epoch ∧ r.prom ≤ x.epoch ∧ x.epoch ≤ 1048576 ∧ x.from_ = fromR r x) ∧ okLog (logR r x) x.epoch = true ∧ r.log.take r.com.toNat <+: logR r x) :
    viewR r x = some ⟨x.epoch, x.epoch, logR r x, r.com⟩ := by
  unfold viewR; rw [if_pos h]

/-- What 'viewed' tells. -/
def ViewP (A : Option Addr) (r : RegS) (x : RecS) (w : World) (e : Ending) (w' : World) : Prop :=
  ∃ sl : SlcE, e = .returned (.tuple #[.slice sl.1 sl.2.1 sl.2.2, .bool (viewR r x).isSome]) ∧ (∀ a, viewR r x = some a → LogAt w' w'.heap.size sl a.log ∧ (sl.1 = A ∨ ∃ g, sl.1 = some ⟨g, 0, none⟩ ∧ w.heap.size ≤ g)) ∧ Below w.heap.size w w'
theorem ViewP.no {A : Option Addr} {r : RegS} {x : RecS} {w w' : World} {e : Ending} (h : viewR r x = none) (sl : SlcE) (he : e = .returned (.tuple #[.slice sl.1 sl.2.1 sl.2.2, .bool false])) (hb : Below w.heap.size w w') : ViewP A r x w e w' := by
  refine ⟨sl, by rw [h]; exact he, fun a ha => ?_, hb⟩
  rw [h] at ha
  cases ha

set_option maxHeartbeats 8000000 in
theorem viewed_any (r : RegS) (sl : SlcE) (x : RecV) (w : World) (hm : mayR r = true) (hl : LogAt w w.heap.size sl r.log) (hx : LogAt w w.heap.size x.es x.ents) (hx2 : x.ents.length ≤ 1000) :
    Calls Try.prog 48 #[.agg (rgv r sl).toArray, .agg (rcv x).toArray] w (ViewP sl.1 r x.s w) := by
  obtain ⟨⟨m1, m2, m3⟩, m4, m5, m6⟩ := (mayR_iff r).1 hm
  have m64 := ((okLog_iff _ _).1 m4).1
  clear m4 hm
  obtain ⟨p, v, lg, k⟩ := r
  obtain ⟨A, n, c⟩ := sl
  obtain rfl : n = lg.length := hl.1
  obtain ⟨kd, st, ep, vw, fr, ln, ⟨B, nb, d⟩, es, ⟨F, nf, cf⟩⟩ := x
  obtain rfl : nb = es.length := hx.1
  dsimp only at m1 m2 m3 m5 m6 m64 hx2
  obtain ⟨kn, rfl⟩ : ∃ kn : Nat, k = kn := ⟨k.toNat, by omega⟩
  have hlc : lg.length ≤ c := hl.2.1
  have hc2 : c ≤ 9223372036854775807 := hl.2.2.1
  have hkc : kn ≤ c := by omega
  have hw0 : Below w.heap.size w ((w.alloc (.cells (rgv ⟨p, v, lg, kn⟩ (A, lg.length, c)).toArray 37)).alloc (.cells (rcv ⟨kd, st, ep, vw, fr, ln, (B, es.length, d), es, (F, nf, cf)⟩).toArray 53)) := ((Below.refl _ _).alloc (Nat.le_refl _) _).alloc (by simp) _
  have B0 := (Blk.new w 37 (rgv ⟨p, v, lg, kn⟩ (A, lg.length, c))).alloc (.cells (rcv ⟨kd, st, ep, vw, fr, ln, (B, es.length, d), es, (F, nf, cf)⟩).toArray 53)
  have B1 := Blk.new1 w (.cells (rgv ⟨p, v, lg, kn⟩ (A, lg.length, c)).toArray 37) 53 (rcv ⟨kd, st, ep, vw, fr, ln, (B, es.length, d), es, (F, nf, cf)⟩)
  unfold rgv rcv at hw0 B0 B1
  have HH := Lib.hid (And.intro hw0 (And.intro B0 (And.intro B1 (And.intro (hl.keep hw0) (hx.keep hw0)))))
  clear hw0 B0 B1 hl hx
  unfold rgv rcv
  by_cases a1 : 1 ≤ ep
  case neg =>
    have HN := Lib.hid (viewR_no (r := ⟨p, v, lg, kn⟩) (x := ⟨kd, st, ep, vw, fr, ln, es⟩) (fun h => a1 h.1.1))
    go_enter Try.func48, Try.ntmps48
    go_wp2_with fail
    go_ret2
    exact ViewP.no HN.out (none, 0, 0) rfl HH.out.1
  by_cases a2 : p ≤ ep
  case neg =>
    have HN := Lib.hid (viewR_no (r := ⟨p, v, lg, kn⟩) (x := ⟨kd, st, ep, vw, fr, ln, es⟩) (fun h => a2 h.1.2.1))
    go_enter Try.func48, Try.ntmps48
    go_wp2_with fail
    go_ret2
    exact ViewP.no HN.out (none, 0, 0) rfl HH.out.1
  by_cases a3 : ep ≤ 1048576
  case neg =>
    have HN := Lib.hid (viewR_no (r := ⟨p, v, lg, kn⟩) (x := ⟨kd, st, ep, vw, fr, ln, es⟩) (fun h => a3 h.1.2.2.1))
    go_enter Try.func48, Try.ntmps48
    go_wp2_with fail
    go_ret2
    exact ViewP.no HN.out (none, 0, 0) rfl HH.out.1
  by_cases a4 : 0 ≤ fr
  case neg =>
    have HN := Lib.hid (viewR_no (r := ⟨p, v, lg, kn⟩) (x := ⟨kd, st, ep, vw, fr, ln, es⟩) (fun h => a4 (by have := h.1.2.2.2; dsimp only at this; omega)))
    go_enter Try.func48, Try.ntmps48
    go_wp2_with fail
    go_ret2
    exact ViewP.no HN.out (none, 0, 0) rfl HH.out.1
  have hfl : fromR ⟨p, v, lg, kn⟩ ⟨kd, st, ep, vw, fr, ln, es⟩ ≤ lg.length := by unfold fromR; split <;> simp
  by_cases a5 : fr ≤ (lg.length : Int)
  case neg =>
    have HN := Lib.hid (viewR_no (r := ⟨p, v, lg, kn⟩) (x := ⟨kd, st, ep, vw, fr, ln, es⟩) (fun h => a5 (by have := h.1.2.2.2; dsimp only at this; omega)))
    clear hfl
    go_enter Try.func48, Try.ntmps48
    go_wp2_with fail
    go_ret2
    exact ViewP.no HN.out (none, 0, 0) rfl HH.out.1
  obtain ⟨fn, rfl⟩ : ∃ fn : Nat, fr = fn := ⟨fr.toNat, by omega⟩
  have hF : (v < ep → fromR ⟨p, v, lg, kn⟩ ⟨kd, st, ep, vw, fn, ln, es⟩ = 0) ∧ (ep = v → fromR ⟨p, v, lg, kn⟩ ⟨kd, st, ep, vw, fn, ln, es⟩ = lg.length) := by
    unfold fromR
    exact ⟨fun h => by rw [if_neg (by show ¬ ep = v; omega)], fun h => by rw [if_pos h]⟩
  by_cases b1 : v < ep ∧ 0 < fn
  case pos =>
    have HN := Lib.hid (viewR_no (r := ⟨p, v, lg, kn⟩) (x := ⟨kd, st, ep, vw, fn, ln, es⟩) (fun h => by have h1 := h.1.2.2.2; rw [hF.1 b1.1] at h1; dsimp only at h1; omega))
    obtain ⟨b2, b3⟩ := b1
    have b4 : (0 : Int) < (fn : Int) := by omega
    clear hF hfl
    go_enter Try.func48, Try.ntmps48
    go_wp2_with fail
    go_ret2
    exact ViewP.no HN.out (none, 0, 0) rfl HH.out.1
  by_cases b5 : ep = v ∧ fn < lg.length
  case pos =>
    have HN := Lib.hid (viewR_no (r := ⟨p, v, lg, kn⟩) (x := ⟨kd, st, ep, vw, fn, ln, es⟩) (fun h => by have h1 := h.1.2.2.2; rw [hF.2 b5.1] at h1; dsimp only at h1; omega))
    obtain ⟨b2, b3⟩ := b5
    clear hF hfl b1
    subst b2
    have b4 : ¬ ep < ep := by omega
    go_enter Try.func48, Try.ntmps48
    go_wp2_with fail
    go_ret2
    exact ViewP.no HN.out (none, 0, 0) rfl HH.out.1
  have hfr : fromR ⟨p, v, lg, kn⟩ ⟨kd, st, ep, vw, fn, ln, es⟩ = fn := by
    by_cases h : v < ep
    · rw [hF.1 h]; have : ¬ 0 < fn := fun h' => b1 ⟨h, h'⟩; omega
    · have he : ep = v := by omega
      rw [hF.2 he]; have : ¬ fn < lg.length := fun h' => b5 ⟨he, h'⟩; omega
  have hL : logR ⟨p, v, lg, kn⟩ ⟨kd, st, ep, vw, fn, ln, es⟩ = lg.take fn ++ es := by unfold logR; rw [hfr]
  have hfn : fn ≤ lg.length := by omega
  have hV := fun (h1 : okLog (lg.take fn ++ es) ep = true) (h2 : lg.take kn <+: lg.take fn ++ es) => viewR_yes (r := ⟨p, v, lg, kn⟩) (x := ⟨kd, st, ep, vw, fn, ln, es⟩) ⟨⟨a1, a2, a3, by rw [hfr]⟩, by rw [hL]; exact h1, by rw [hL]; exact h2⟩
  have hN := fun (h : ¬ (okLog (lg.take fn ++ es) ep = true ∧ lg.take kn <+: lg.take fn ++ es)) => viewR_no (r := ⟨p, v, lg, kn⟩) (x := ⟨kd, st, ep, vw, fn, ln, es⟩) (fun hh => h (by have := hh.2; rw [hL] at this; exact this))
  rw [hL] at hV
  have HV := Lib.hid (And.intro hV hN)
  obtain ⟨⟨A1, n1, c1⟩, w2, hrun, hLA, hb2, hwh⟩ := app_full (lg.take fn) es A B d ((w.alloc (.cells #[.int .i64 p, .int .i64 v, .slice A lg.length c, .int .i64 kn] 37)).alloc (.cells #[.int .i64 kd, .int .i64 st, .int .i64 ep, .int .i64 vw, .int .i64 fn, .int .i64 ln, .slice B es.length d, .slice F nf cf] 53)).drew
    (HH.out.2.2.2.1.2.2.2.take fn) HH.out.2.2.2.2.2.2.2 (by rw [List.length_take]; omega)
  rw [List.length_take, Nat.min_eq_left hfn] at hrun
  have hln : (lg.take fn ++ es).length = fn + es.length := by rw [List.length_append, List.length_take, Nat.min_eq_left hfn]
  obtain rfl : n1 = fn + es.length := hLA.1.trans hln
  dsimp only at hrun
  have hwh' : A1 = A ∨ ∃ g, A1 = some ⟨g, 0, none⟩ ∧ w.heap.size ≤ g := hwh.imp id (fun ⟨g, h1, h2⟩ => ⟨g, h1, Nat.le_trans (by simp; omega) h2⟩)
  have HWH := Lib.hid hwh'
  have HL := Lib.hid (And.intro hLA hb2)
  clear hwh hwh' hLA hb2 hV hN hL hfr hF hfl
  have hfc : fn ≤ c := by omega
  have e1 : ¬ (v < ep ∧ (0 : Int) < (fn : Int)) := fun h => b1 ⟨h.1, by omega⟩
  have e2 : ¬ (ep = v ∧ (fn : Int) < (lg.length : Int)) := fun h => b5 ⟨h.1, by omega⟩
  have hcases : (v < ep ∧ ¬ (0 : Int) < (fn : Int) ∧ (ep == v) = false) ∨ (¬ v < ep ∧ (ep == v) = true ∧ ¬ (fn : Int) < (lg.length : Int)) := by
    by_cases h : v < ep
    · exact .inl ⟨h, fun h' => e1 ⟨h, h'⟩, by rw [beq_eq_false_iff_ne]; omega⟩
    · have he : ep = v := by omega
      exact .inr ⟨h, by rw [beq_iff_eq]; exact he, fun h' => e2 ⟨he, h'⟩⟩
  clear b1 b5 e1 e2
  rcases hcases with ⟨f1, f2, f3⟩ | ⟨f1, f2, f3⟩
  all_goals
    go_enter Try.func48, Try.ntmps48
    go_wp2_with fail
    refine wp_region_p ([(0, true), (1, true), (2, true), (3, true), (4, true), (5, true), (6, true), (7, true), (8, true), (9, false), (10, true)]) (fun w' => Below w.heap.size w w' ∧ Blk w' w.heap.size 37 [.int .i64 p, .int .i64 v, .slice A lg.length c, .int .i64 kn] ∧ Blk w' (w.heap.size + 1) 53 [.int .i64 kd, .int .i64 st, .int .i64 ep, .int .i64 vw, .int .i64 fn, .int .i64 ln, .slice B es.length d, .slice F nf cf]) (by kernel_rfl) rfl (by kernel_rfl) (by kernel_rfl) (⟨HH.out.1.drew, HH.out.2.1.drew, HH.out.2.2.1.drew⟩) rfl ?_
    intro KP RP TP hKP hTP hTP'
    simp only [pick, nth]
    go_wp2_with (first
      | (apply SeqP.skip; rfl; simp only [Act.put, List.setIfInBounds_toArray, List.set_cons_zero, List.set_cons_succ])
      | (apply SeqP.call; rfl; rfl; (intro w2 hw; have hw := hTP _ hw; ((have r2 := hw.2.1.cell 2; have x4 := hw.2.2.cell 4; have x6 := hw.2.2.cell 6; simp at r2 x4 x6)); go_simp; exact ⟨rfl, rfl⟩); (intro w2 hw; have hw := hTP _ hw; ((have r2 := hw.2.1.cell 2; have x4 := hw.2.2.cell 4; have x6 := hw.2.2.cell 6; simp at r2 x4 x6)); (first | fail)); simp only [Act.put, List.setIfInBounds_toArray, List.set_cons_zero, List.set_cons_succ])
      | (apply SeqP.pure; rfl; (intro w2 hw; have hw := hTP _ hw; ((have r2 := hw.2.1.cell 2; have x4 := hw.2.2.cell 4; have x6 := hw.2.2.cell 6; simp at r2 x4 x6)); go_simp; with_reducible rfl); simp only [Act.put, List.setIfInBounds_toArray, List.set_cons_zero, List.set_cons_succ])
      | (apply SeqP.split; rfl; rfl; all_goals (intro hc; simp only [hc]; try simp only [beq_iff_eq, decide_eq_true_eq, beq_eq_false_iff_ne, decide_eq_false_iff_not, bne_iff_ne, ne_eq, Bool.not_eq_true', Bool.not_eq_false', Int.not_le, Int.not_lt, bne_eq_false_iff_eq, Bool.or_eq_true, Bool.and_eq_true, Bool.or_eq_false_iff] at hc)))
    apply SeqP.eff
    · rfl
    intro KE hKE
    refine oper_app (by rfl) (by rfl) (by rfl) hrun ?_
    have hw2 := below_trans HH.out.1.drew HL.out.2 HH.out.1.size
    have C0 := HH.out.2.1.drew.keep HL.out.2
    have C1 := HH.out.2.2.1.drew.keep HL.out.2
    refine hKE _ _ (hTP' _ ⟨hw2, C0, C1⟩) ?_
    clear hKE KE
    go_wp2_with (first
      | (apply SeqP.skip; rfl; simp only [Act.put, List.setIfInBounds_toArray, List.set_cons_zero, List.set_cons_succ])
      | (apply SeqP.call; rfl; rfl; (intro w2 hw; have hw := hTP _ hw; (skip); go_simp; exact ⟨rfl, rfl⟩); (intro w2 hw; have hw := hTP _ hw; (skip); (first | fail)); simp only [Act.put, List.setIfInBounds_toArray, List.set_cons_zero, List.set_cons_succ])
      | (apply SeqP.pure; rfl; (intro w2 hw; have hw := hTP _ hw; (skip); go_simp; with_reducible rfl); simp only [Act.put, List.setIfInBounds_toArray, List.set_cons_zero, List.set_cons_succ])
      | (apply SeqP.split; rfl; rfl; all_goals (intro hc; simp only [hc]; try simp only [beq_iff_eq, decide_eq_true_eq, beq_eq_false_iff_ne, decide_eq_false_iff_not, bne_iff_ne, ne_eq, Bool.not_eq_true', Bool.not_eq_false', Int.not_le, Int.not_lt, bne_eq_false_iff_eq, Bool.or_eq_true, Bool.and_eq_true, Bool.or_eq_false_iff] at hc)))
    apply SeqP.nil
    refine hKP _ _ (hTP' _ (⟨hw2, C0, C1⟩)) ?_
    clear hKP hTP hTP'
    have hz2 := hw2.size
    have x2 := C1.cell 2
    simp at x2
    have hml : (lg.take fn ++ es).length ≤ 9223372036854775807 := by rw [List.length_append, List.length_take]; omega
    have hL2 := HL.out.1
    have hLl := (HH.out.2.2.2.1.keep (Below.refl _ _).drew).keep HL.out.2
    have HK := Lib.hid (And.intro hL2 hLl)
    clear hrun HL HH hL2 hLl
    have HLN := Lib.hid hln
    clear hln
    generalize lg.take fn ++ es = mm at hml HV HK HLN ⊢
    go_wp2_with fail
    have hW := whole_any mm A1 c1 ep w2 HK.out.1.2.2.2 hml
    rw [HLN.out] at hW
    refine hW.mono ?_
    clear hW
    rintro e w3 ⟨rfl, hb⟩
    have hw3 := below_trans hw2 hb hz2
    have D0 := C0.keep hb
    have HM := Lib.hid (And.intro (HK.out.1.keep hb) (HK.out.2.keep hb))
    have hz3 := hw3.size
    clear hb HK C0 C1 x2 hw2
    cases hO : okLog mm ep with
    | false =>
      have HN := Lib.hid (HV.out.2 (fun h => by rw [hO] at h; cases h.1))
      clear hO
      go_wp2_with fail
      go_ret2
      exact ViewP.no HN.out (A1, fn + es.length, c1) rfl hw3
    | true =>
      have hP := prefix_any (lg.take kn) mm A A1 c c1 w3 (HM.out.2.2.2.2.take kn) HM.out.1.2.2.2 (by rw [List.length_take]; omega) hml HM.out.1.2.1 HM.out.1.2.2.1
      rw [List.length_take, Nat.min_eq_left (by omega), HLN.out] at hP
      have HP := Lib.hid hP
      have d2 := D0.cell 2
      have d3 := D0.cell 3
      simp at d2 d3
      have HO := Lib.hid hO
      clear hP hO
      go_wp2_with fail
      refine HP.out.mono ?_
      rintro e w4 ⟨rfl, hb⟩
      have hw4 := below_trans hw3 hb hz3
      have hL4 := HM.out.1.keep hb
      clear hb HM HP
      by_cases hpre : lg.take kn <+: mm
      · have hY := HV.out.1 HO.out hpre
        have HY := Lib.hid (And.intro hY hL4)
        rw [decide_eq_true hpre]
        clear hY hL4 hpre
        go_wp2_with fail
        go_ret2
        refine ⟨(A1, fn + es.length, c1), ?_, ?_, hw4⟩
        · show _ = Ending.returned (.tuple #[_, .bool (viewR ⟨p, v, lg, kn⟩ ⟨kd, st, ep, vw, fn, ln, es⟩).isSome])
          rw [HY.out.1]
          rfl
        · intro a ha
          have ha' : viewR ⟨p, v, lg, kn⟩ ⟨kd, st, ep, vw, fn, ln, es⟩ = some a := ha
          rw [HY.out.1] at ha'
          cases ha'
          exact ⟨HY.out.2, HWH.out⟩
      · have HN := Lib.hid (HV.out.2 (fun h => hpre h.2))
        rw [decide_eq_false hpre]
        clear hpre
        go_wp2_with fail
        go_ret2
        exact ViewP.no HN.out (A1, fn + es.length, c1) rfl hw4
end Go.Proofs.Ytdphfhenjndkkaa

set_option linter.unusedSimpArgs false
set_option linter.unusedVariables false
set_option maxRecDepth 100000
namespace Go.Sq
open Go

section
variable {P : Program} {ops : Array Oper} {Q : Exit → Act → World → Prop} {S : World → Prop}

def onlyIs : List Nat → Nat → Bool
  | [j], i => Nat.beq j i
  | _, _ => false
theorem onlyIs_spec : ∀ {l : List Nat} {i : Nat}, onlyIs l i = true → l = [i]
  | [j], i, h => by rw [Nat.eq_of_beq_eq_true h]
  | [], _, h => by cases h
  | _ :: _ :: _, _, h => by cases h

/-- What is done behind a schedule. -/
def endP (ops : Array Oper) : List (Nat × Bool) → Array Bool → Option (Array Bool)
  | [], l => some l
  | (i, true) :: r, l => if quietOk ops i l then endP ops r (l.setIfInBounds i true) else none
  | (i, false) :: r, l => if Nat.blt i ops.size && onlyIs (Region.ready .any ops l) i then endP ops r (l.setIfInBounds i true) else none

def okTwo (ops : Array Oper) (p p1 p2 : List (Nat × Bool)) : Bool :=
  match endP ops p (upto ops.size 0) with
  | none => false
  | some l => Nat.beq p1.length p2.length && Nat.beq (p.length + p1.length) ops.size && (match p1, p2, Region.ready .any ops l with
    | (i, false) :: r1, (j, false) :: r2, [a, b] => Nat.beq a i && Nat.beq b j && Nat.blt i ops.size && Nat.blt j ops.size && okP ops r1 (l.setIfInBounds i true) && okP ops r2 (l.setIfInBounds j true)
    | _, _, _ => false)

theorem wpAnyH_pre {ds : List (Option Tmp)} (hds : ops.toList.map (·.dst) = ds) (hsel : noSel ops.toList = true) (hQ : ∀ c a d v w, Q (.panic c) (a.put d v) w → Q (.panic c) a w)
    {m : Nat} {last : Array Bool} {K : Act → World → Prop} (hK : ∀ a w, S w → K a w → wpAnyH P .any ops Q S m last a w) :
    ∀ (perm : List (Nat × Bool)) (listed : Array Bool) (a : Act) (w : World), endP ops perm listed = some last → S w → SeqP P ds K Q S (pick ops.toList perm) a w → wpAnyH P .any ops Q S (perm.length + m) listed a w := by
  have hns : Region.noSelect ops = true := by
    unfold Region.noSelect
    rw [← Array.all_toList, List.all_eq_true]
    exact noSel_spec hsel
  intro perm
  induction perm with
  | nil =>
    intro listed a w hok hS h
    simp only [endP, Option.some.injEq] at hok
    subst hok
    rw [List.length_nil, Nat.zero_add]
    exact hK a w hS h
  | cons p r ih =>
    intro listed a w hok hS h
    obtain ⟨i, q⟩ := p
    cases q with
    | true =>
      simp only [endP] at hok
      split at hok
      · rename_i hq
        simp only [quietOk, Bool.and_eq_true, Bool.not_eq_true'] at hq
        obtain ⟨⟨⟨hlt, hun⟩, hdep⟩, hoth⟩ := hq
        have hlt : i < ops.size := Nat.le_of_ble_eq_true hlt
        have hio : ops[i]? = some (nth ops.toList i) := by
          have := nth_get ops.toList i (by simpa using hlt)
          simpa using this
        obtain ⟨v, hs, hrest2⟩ := h
        rw [show ((i, true) :: r).length + m = (r.length + m) + 1 from by simp only [List.length_cons]; omega]
        refine wpAnyH_firstQ hio (Region.noSelect_spec hns) (fun c a w => hQ c a _ v w) (r.length + m) listed a w ?_ ?_ (by unfold YieldsQ; rw [wantedD_eq hds]; exact hs) hS ?_
        · intro j oj hoj hji hunj hno
          have hl := othersOk_spec hoth j oj (by simpa using hoj) (by omega) (by simpa using hunj)
          rcases hl with h1 | h1
          · obtain ⟨e, he, hb⟩ := waitsFor_iff.1 h1
            exact absurd hb.2 (hno e (by simpa using he) hb.1)
          · exact h1
        · rw [mem_ready]
          exact ⟨hun, _, hio, fun e he hb => depsIn_spec hdep e (by simpa using he) hb⟩
        · exact ih _ _ _ hok hS hrest2
      · cases hok
    | false =>
      simp only [endP] at hok
      by_cases hq : (Nat.blt i ops.size && onlyIs (Region.ready .any ops listed) i) = true
      · rw [if_pos hq] at hok
        simp only [Bool.and_eq_true] at hq
        obtain ⟨hlt, hrd⟩ := hq
        have hlt : i < ops.size := Nat.le_of_ble_eq_true hlt
        have hio : ops[i]? = some (nth ops.toList i) := by
          have := nth_get ops.toList i (by simpa using hlt)
          simpa using this
        have hrd2 := onlyIs_spec hrd
        simp only [pick, SeqP] at h
        rw [show ((i, false) :: r).length + m = (r.length + m) + 1 from by simp only [List.length_cons]; omega]
        refine ⟨fun h0 => (by rw [hrd2] at h0; cases h0), fun j hj => ?_⟩
        rw [hrd2] at hj
        obtain rfl : j = i := by simpa using hj
        unfold wpOp
        simp only [hio]
        rw [wantedD_eq hds]
        split
        · rename_i hw
          rw [if_pos hw] at h
          exact .inl (Oper.wp_mono (fun a w h => ⟨h.1, ih _ _ _ hok h.1 h.2⟩) h)
        · rename_i hw
          rw [if_neg hw] at h
          exact ⟨h.1, ih _ _ _ hok h.1 h.2⟩
      · rw [if_neg hq] at hok; cases hok

/-- THE RULE. -/
theorem wp_region_p2 {id : Nat} {a : Act} {w : World} (perm p1 p2 : List (Nat × Bool)) (S : World → Prop) (hm : P.follows .mixedOrders = true)
    (hsel : noSel ops.toList = true) (hok : okTwo ops perm p1 p2 = true) (hS : S w.drew) {ds : List (Option Tmp)} (hds : ops.toList.map (·.dst) = ds)
    (h : ∀ (K : Act → World → Prop) (R : Exit → Act → World → Prop) (T : World → Prop), (∀ a w, T w → Q .normal a w → K a w) → (∀ w, T w → S w) → (∀ w, S w → T w) →
      SeqP P ds (fun a w => SeqP P ds K R T (pick ops.toList p1) a w ∧ SeqP P ds K R T (pick ops.toList p2) a w) R T (pick ops.toList perm) a w.drew) :
    (Code.region id ops true).wp P Q a w := by
  refine wp_region_noPanic (wp_region_held (S := S) hm ?_)
  unfold okTwo at hok
  cases hl : endP ops perm (upto ops.size 0) with
  | none => rw [hl] at hok; cases hok
  | some l =>
  rw [hl] at hok
  simp only [Bool.and_eq_true] at hok
  obtain ⟨⟨hl1, hl2⟩, hbr⟩ := hok
  have hl1 := Nat.eq_of_beq_eq_true hl1
  have hl2 := Nat.eq_of_beq_eq_true hl2
  have h1 := wpAnyH_pre (P := P) (S := S) (Q := NoPanic Q) (m := p1.length) (last := l) hds hsel (fun _ _ _ _ _ h => h) (fun a w hS hab => ?_) perm (upto ops.size 0) a w.drew hl hS
    (h (NoPanic Q .normal) (NoPanic Q) S (fun _ _ _ h => h) (fun _ h => h) (fun _ h => h))
  · rw [hl2] at h1
    have h3 : upto ops.size 0 = Array.replicate ops.size false := by
      apply Array.ext
      · simp [upto]
      · intro j _ _; simp [upto]
    rw [h3] at h1
    exact h1
  · obtain ⟨ha, hb⟩ := hab
    cases p1 with
    | nil => cases p2 <;> cases hbr
    | cons x1 r1 =>
    cases p2 with
    | nil => cases hl1
    | cons x2 r2 =>
    obtain ⟨i, q1⟩ := x1
    obtain ⟨j, q2⟩ := x2
    cases q1
    case true => cases hbr
    cases q2
    case true => cases hbr
    cases hr : Region.ready .any ops l with
    | nil => rw [hr] at hbr; cases hbr
    | cons x t =>
    cases t with
    | nil => rw [hr] at hbr; cases hbr
    | cons y t =>
    cases t with
    | cons z t => rw [hr] at hbr; cases hbr
    | nil =>
    rw [hr] at hbr
    simp only [Bool.and_eq_true] at hbr
    obtain ⟨⟨⟨⟨⟨e1, e2⟩, b1⟩, b2⟩, k1⟩, k2⟩ := hbr
    have e1 := Nat.eq_of_beq_eq_true e1
    have e2 := Nat.eq_of_beq_eq_true e2
    subst e1 e2
    have step : ∀ (n : Nat) (r : List (Nat × Bool)), Nat.blt n ops.size = true → okP ops r (l.setIfInBounds n true) = true → r.length = r1.length → SeqP P ds (NoPanic Q .normal) (NoPanic Q) S (pick ops.toList ((n, false) :: r)) a w → wpOp P ops (NoPanic Q) n (fun a w => S w ∧ wpAnyH P .any ops (NoPanic Q) S r1.length (l.setIfInBounds n true) a w) a w := by
      intro n r hlt hok2 hlen h
      have hlt : n < ops.size := Nat.le_of_ble_eq_true hlt
      have hio : ops[n]? = some (nth ops.toList n) := by
        have := nth_get ops.toList n (by simpa using hlt)
        simpa using this
      simp only [pick, SeqP] at h
      unfold wpOp
      simp only [hio]
      rw [wantedD_eq hds]
      have fin := wpAnyH_P (P := P) (S := S) (Q := NoPanic Q) hds hsel (fun _ _ _ _ _ h => h)
      split
      · rename_i hw
        rw [if_pos hw] at h
        exact .inl (Oper.wp_mono (fun a w h => ⟨h.1, hlen ▸ fin _ _ _ _ hok2 h.1 h.2⟩) h)
      · rename_i hw
        rw [if_neg hw] at h
        exact ⟨h.1, hlen ▸ fin _ _ _ _ hok2 h.1 h.2⟩
    refine ⟨fun h0 => (by rw [hr] at h0; cases h0), fun n hn => ?_⟩
    rw [hr] at hn
    rcases List.mem_cons.1 hn with rfl | hn
    · exact step _ r1 b1 k1 rfl ha
    · obtain rfl : n = y := by simpa using hn
      exact step _ r2 b2 k2 (by simpa using hl1.symm) hb
end
end Go.Sq
