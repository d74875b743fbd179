/-
  What a register is, and what becomes of it by a record, in plain Lean.
  A piece of mail, in plain Lean.
  An argument that is a struct by value, opened to the values of its fields.
  Epochs in plain Lean, and the walks over epochs' short functions, the document's too.
  The best of ranks: plain.
  Ballots in plain Lean: who has promised, slot by slot; the document's list of them; that both choose alike.
  Loads and stores of a block that is known whole.
  Loads and stores of a part of a block that is known whole.
  Records, and a slice of them, read as a list.
  Rows of entries, and append([]api.Entry{}, l...).
  Entries appended to a slice that is full: what it held is copied, or nothing comes.
  The walks over 'orders.fields' and 'orders.Check'.
  The walks over 'register.whole', 'Check', the document's 'log' and 'Check'.
-/
import Derived.Test.YtdphfhenjndkkaaProg
import Derived.Deep.Slices
import Derived.Deep.Fields
import Derived.ChangeSame
import Derived.ProofKit
import Derived.OpenShut
import Derived.WalkKit
import Derived.WalkSpells
import Derived.WalkLawsBesides
import Derived.RowKit3
import Derived.Lib.Hide
import Derived.Laws.CopyOwn
import Derived.Deep.MidRow
import Derived.Laws.StructEq
import Derived.ArgAppend
import Derived.Deep.Upon
import Derived.Test.YtdphfhenjndkkaaOwnersMailK1
set_option linter.unusedSimpArgs false
set_option linter.unusedVariables false
set_option maxRecDepth 100000
namespace Go.Proofs.Ytdphfhenjndkkaa
open Go Go.Arch

structure RegS where
  prom : Int
  view : Int
  log : List Ent
  com : Int
structure RecS where
  kind : Int
  stream : Int
  epoch : Int
  view : Int
  from_ : Int
  len : Int
  ents : List Ent
def ordE (e : Ent) : Ord := ⟨e.2.1, e.2.2.1, e.2.2.2.1, e.2.2.2.2.1, e.2.2.2.2.2⟩
def okEnt (v : Int) (e : Ent) : Bool := decide (1 ≤ e.1 ∧ e.1 ≤ v) && ordOk (ordE e)
def okLog (l : List Ent) (v : Int) : Bool := decide (l.length ≤ 64) && (l.all (okEnt v) && risesB l)
def mayR (r : RegS) : Bool := decide (0 ≤ r.view ∧ r.view ≤ r.prom ∧ r.prom ≤ 1048576) && (okLog r.log r.view && decide (0 ≤ r.com ∧ r.com ≤ r.log.length))
def fromR (r : RegS) (x : RecS) : Nat := if x.epoch = r.view then r.log.length else 0
def logR (r : RegS) (x : RecS) : List Ent := r.log.take (fromR r x) ++ x.ents
def viewR (r : RegS) (x : RecS) : Option RegS :=
  if (1 ≤ x.epoch ∧ r.prom ≤ x.epoch ∧ x.epoch ≤ 1048576 ∧ x.from_ = fromR r x) ∧ okLog (logR r x) x.epoch = true ∧ r.log.take r.com.toNat <+: logR r x then some ⟨x.epoch, x.epoch, logR r x, r.com⟩ else none
def applyR (r : RegS) (x : RecS) : Option RegS :=
  if mayR r = true then
    if x.kind = 1 then (if r.prom < x.epoch ∧ x.epoch ≤ 1048576 then some { r with prom := x.epoch } else none)
    else if x.kind = 2 then viewR r x
    else if x.kind = 3 then (if r.com < x.len ∧ x.len ≤ r.log.length then some { r with com := x.len } else none)
    else if x.kind = 4 then (if r.prom = 0 ∧ mayR ⟨x.epoch, x.view, x.ents, x.len⟩ = true then some ⟨x.epoch, x.view, x.ents, x.len⟩ else none)
    else none
  else none
def reg0 : RegS := ⟨0, 0, [], 0⟩
/-- What is told: a register, and whether. -/
def regR (o : Option RegS) : RegS × Bool := match o with | some r => (r, true) | none => (reg0, false)

theorem mayR_iff (r : RegS) : mayR r = true ↔ (0 ≤ r.view ∧ r.view ≤ r.prom ∧ r.prom ≤ 1048576) ∧ okLog r.log r.view = true ∧ 0 ≤ r.com ∧ r.com ≤ r.log.length := by
  unfold mayR; simp only [Bool.and_eq_true, decide_eq_true_eq]
theorem okLog_iff (l : List Ent) (v : Int) : okLog l v = true ↔ l.length ≤ 64 ∧ (∀ e ∈ l, okEnt v e = true) ∧ risesB l = true := by
  unfold okLog; simp only [Bool.and_eq_true, decide_eq_true_eq, List.all_eq_true]
theorem okLog_zero {l : List Ent} (h : okLog l 0 = true) : l = [] := by
  cases l with
  | nil => rfl
  | cons a l =>
    have h1 := ((okLog_iff _ _).1 h).2.1 a (by simp)
    unfold okEnt at h1
    simp only [Bool.and_eq_true, decide_eq_true_eq] at h1
    omega
theorem may_zero {r : RegS} (h : mayR r = true) (h0 : r.prom = 0) : r.view = 0 ∧ r.log = [] ∧ r.com = 0 := by
  obtain ⟨⟨h1, h2, h3⟩, h4, h5, h6⟩ := (mayR_iff r).1 h
  have hv : r.view = 0 := by omega
  rw [hv] at h4
  have hl := okLog_zero h4
  rw [hl] at h6
  exact ⟨hv, hl, by simp at h6; omega⟩
theorem may_reg0 : mayR reg0 = true := by decide

theorem apply_may {r a : RegS} {x : RecS} (h : applyR r x = some a) : mayR r = true := by
  unfold applyR at h
  split at h
  · assumption
  · cases h
theorem apply_cases {r a : RegS} {x : RecS} (h : applyR r x = some a) :
    (x.kind = 1 ∧ r.prom < x.epoch ∧ x.epoch ≤ 1048576 ∧ a = { r with prom := x.epoch }) ∨
    (x.kind = 2 ∧ (1 ≤ x.epoch ∧ r.prom ≤ x.epoch ∧ x.epoch ≤ 1048576 ∧ x.from_ = fromR r x) ∧ okLog (logR r x) x.epoch = true ∧ r.log.take r.com.toNat <+: logR r x ∧ a = ⟨x.epoch, x.epoch, logR r x, r.com⟩) ∨
    (x.kind = 3 ∧ r.com < x.len ∧ x.len ≤ r.log.length ∧ a = { r with com := x.len }) ∨
    (x.kind = 4 ∧ r.prom = 0 ∧ mayR ⟨x.epoch, x.view, x.ents, x.len⟩ = true ∧ a = ⟨x.epoch, x.view, x.ents, x.len⟩) := by
  have hm := apply_may h
  unfold applyR at h
  rw [if_pos hm] at h
  by_cases k1 : x.kind = 1
  · rw [if_pos k1] at h
    split at h
    · rename_i hc
      cases h
      exact .inl ⟨k1, hc.1, hc.2, rfl⟩
    · cases h
  rw [if_neg k1] at h
  by_cases k2 : x.kind = 2
  · rw [if_pos k2] at h
    unfold viewR at h
    split at h
    · rename_i hc
      cases h
      exact .inr (.inl ⟨k2, hc.1, hc.2.1, hc.2.2, rfl⟩)
    · cases h
  rw [if_neg k2] at h
  by_cases k3 : x.kind = 3
  · rw [if_pos k3] at h
    split at h
    · rename_i hc
      cases h
      exact .inr (.inr (.inl ⟨k3, hc.1, hc.2, rfl⟩))
    · cases h
  rw [if_neg k3] at h
  by_cases k4 : x.kind = 4
  · rw [if_pos k4] at h
    split at h
    · rename_i hc
      cases h
      exact .inr (.inr (.inr ⟨k4, hc.1, hc.2, rfl⟩))
    · cases h
  rw [if_neg k4] at h
  cases h

/-- How much of a log must stay. -/
def keepsR (r a : RegS) : Nat := if a.view = r.view then r.log.length else r.com.toNat
theorem apply_stays {r a : RegS} {x : RecS} (h : applyR r x = some a) :
    mayR a = true ∧ r.prom ≤ a.prom ∧ r.view ≤ a.view ∧ r.com ≤ a.com ∧ keepsR r a ≤ a.log.length ∧ a.log.take (keepsR r a) = r.log.take (keepsR r a) := by
  have hm := apply_may h
  obtain ⟨⟨m1, m2, m3⟩, m4, m5, m6⟩ := (mayR_iff r).1 hm
  rcases apply_cases h with ⟨_, h1, h2, rfl⟩ | ⟨_, ⟨h1, h2, h3, h4⟩, h5, h6, rfl⟩ | ⟨_, h1, h2, rfl⟩ | ⟨_, h1, h2, rfl⟩
  · refine ⟨(mayR_iff _).2 ⟨⟨m1, by show r.view ≤ x.epoch; omega, h2⟩, m4, m5, m6⟩, by show r.prom ≤ x.epoch; omega, Int.le_refl _, Int.le_refl _, ?_, rfl⟩
    unfold keepsR; rw [if_pos rfl]; exact Nat.le_refl _
  · have hlen := h6.length_le
    rw [List.length_take, Nat.min_eq_left (by omega)] at hlen
    refine ⟨(mayR_iff _).2 ⟨⟨by show 0 ≤ x.epoch; omega, Int.le_refl _, h3⟩, h5, m5, by show r.com ≤ ((logR r x).length : Int); omega⟩, h2, by show r.view ≤ x.epoch; omega, Int.le_refl _, ?_⟩
    unfold keepsR
    show (if x.epoch = r.view then r.log.length else r.com.toNat) ≤ (logR r x).length ∧ (logR r x).take (if x.epoch = r.view then r.log.length else r.com.toNat) = r.log.take (if x.epoch = r.view then r.log.length else r.com.toNat)
    by_cases he : x.epoch = r.view
    · rw [if_pos he]
      unfold logR fromR
      rw [if_pos he, List.take_length]
      exact ⟨by simp, by simp⟩
    · rw [if_neg he]
      refine ⟨hlen, ?_⟩
      have := List.prefix_iff_eq_take.1 h6
      rw [List.length_take, Nat.min_eq_left (by omega)] at this
      exact this.symm
  · refine ⟨(mayR_iff _).2 ⟨⟨m1, m2, m3⟩, m4, by show 0 ≤ x.len; omega, h2⟩, Int.le_refl _, Int.le_refl _, by show r.com ≤ x.len; omega, ?_, rfl⟩
    unfold keepsR; rw [if_pos rfl]; exact Nat.le_refl _
  · obtain ⟨z1, z2, z3⟩ := may_zero hm h1
    obtain ⟨⟨n1, n2, n3⟩, n4, n5, n6⟩ := (mayR_iff _).1 h2
    dsimp only at n1 n2 n3 n5 n6
    refine ⟨h2, by show r.prom ≤ x.epoch; omega, by show r.view ≤ x.view; omega, by show r.com ≤ x.len; omega, ?_⟩
    have hk : keepsR r ⟨x.epoch, x.view, x.ents, x.len⟩ = 0 := by
      unfold keepsR
      split
      · rw [z2]; rfl
      · rw [z3]; rfl
    rw [hk]
    exact ⟨Nat.zero_le _, rfl⟩
theorem apply_twice {r a b : RegS} {x : RecS} (h : applyR r x = some a) (h' : applyR a x = some b) : b = a := by
  rcases apply_cases h with ⟨k, h1, h2, rfl⟩ | ⟨k, ⟨h1, h2, h3, h4⟩, h5, h6, rfl⟩ | ⟨k, h1, h2, rfl⟩ | ⟨k, h1, h2, rfl⟩
  · rcases apply_cases h' with ⟨_, g1, _⟩ | ⟨k', _⟩ | ⟨k', _⟩ | ⟨k', _⟩
    · have : x.epoch < x.epoch := g1
      omega
    all_goals (rw [k] at k'; exact absurd k' (by decide))
  · rcases apply_cases h' with ⟨k', _⟩ | ⟨_, ⟨g1, g2, g3, g4⟩, g5, g6, rfl⟩ | ⟨k', _⟩ | ⟨k', _⟩
    · rw [k] at k'; exact absurd k' (by decide)
    · have hf : fromR ⟨x.epoch, x.epoch, logR r x, r.com⟩ x = (logR r x).length := by unfold fromR; rw [if_pos rfl]
      rw [hf] at g4
      rw [g4] at h4
      have he : x.ents = [] := by
        have hlen : (logR r x).length = fromR r x := by omega
        have : (logR r x).length = (r.log.take (fromR r x)).length + x.ents.length := by unfold logR; rw [List.length_append]
        have h7 : (r.log.take (fromR r x)).length = fromR r x := by
          rw [List.length_take, Nat.min_eq_left]
          unfold fromR
          split
          · exact Nat.le_refl _
          · exact Nat.zero_le _
        exact List.eq_nil_of_length_eq_zero (by omega)
      have : logR ⟨x.epoch, x.epoch, logR r x, r.com⟩ x = logR r x := by
        show (logR r x).take (fromR ⟨x.epoch, x.epoch, logR r x, r.com⟩ x) ++ x.ents = logR r x
        rw [hf, he, List.append_nil, List.take_length]
      rw [this]
    all_goals (rw [k] at k'; exact absurd k' (by decide))
  · rcases apply_cases h' with ⟨k', _⟩ | ⟨k', _⟩ | ⟨_, g1, _⟩ | ⟨k', _⟩
    · rw [k] at k'; exact absurd k' (by decide)
    · rw [k] at k'; exact absurd k' (by decide)
    · have : x.len < x.len := g1
      omega
    · rw [k] at k'; exact absurd k' (by decide)
  · rcases apply_cases h' with ⟨k', _⟩ | ⟨k', _⟩ | ⟨k', _⟩ | ⟨_, _, _, rfl⟩
    · rw [k] at k'; exact absurd k' (by decide)
    · rw [k] at k'; exact absurd k' (by decide)
    · rw [k] at k'; exact absurd k' (by decide)
    · rfl
/-- The record that says all of a register. -/
def baseR (s : Int) (r : RegS) : RecS := ⟨4, s, r.prom, r.view, 0, r.com, r.log⟩
theorem base_leads {r : RegS} (h : mayR r = true) (s : Int) : applyR reg0 (baseR s r) = some r := by
  unfold applyR
  rw [if_pos may_reg0, if_neg (by show ¬ (4 : Int) = 1; decide), if_neg (by show ¬ (4 : Int) = 2; decide), if_neg (by show ¬ (4 : Int) = 3; decide), if_pos (show (baseR s r).kind = 4 from rfl), if_pos ⟨rfl, h⟩]
  rfl
theorem base_not {r : RegS} (h : r.prom ≠ 0) (s : Int) : applyR r (baseR s r) = none := by
  unfold applyR
  split
  · rw [if_neg (by show ¬ (4 : Int) = 1; decide), if_neg (by show ¬ (4 : Int) = 2; decide), if_neg (by show ¬ (4 : Int) = 3; decide), if_pos (show (baseR s r).kind = 4 from rfl), if_neg (fun hh => h hh.1)]
  · rfl
theorem okLog_more {l more : List Ent} {v : Int} (h : okLog l v = true) (hm : ∀ e ∈ more, e.1 = v ∧ ordOk (ordE e) = true) (h1 : 1 ≤ v) (hl : l.length + more.length ≤ 64) : okLog (l ++ more) v = true := by
  obtain ⟨a1, a2, a3⟩ := (okLog_iff _ _).1 h
  refine (okLog_iff _ _).2 ⟨by rw [List.length_append]; exact hl, fun e he => ?_, (rises_iff _).2 fun i x y hx hy => ?_⟩
  · rcases List.mem_append.1 he with he | he
    · exact a2 e he
    · obtain ⟨e1, e2⟩ := hm e he
      unfold okEnt
      rw [e2, Bool.and_true, decide_eq_true_eq]
      omega
  · have key : ∀ j z, (l ++ more)[j]? = some z → z.1 ≤ v ∧ (l.length ≤ j → z.1 = v) := fun j z hz => by
      rcases Nat.lt_or_ge j l.length with hj | hj
      · rw [List.getElem?_append_left hj] at hz
        have h2 := a2 z (List.mem_of_getElem? hz)
        unfold okEnt at h2
        simp only [Bool.and_eq_true, decide_eq_true_eq] at h2
        exact ⟨h2.1.2, fun h => absurd h (by omega)⟩
      · rw [List.getElem?_append_right hj] at hz
        have := (hm z (List.mem_of_getElem? hz)).1
        exact ⟨by omega, fun _ => this⟩
    rcases Nat.lt_or_ge (i + 1) l.length with hj | hj
    · rw [List.getElem?_append_left (by omega)] at hx
      rw [List.getElem?_append_left hj] at hy
      exact (rises_iff _).1 a3 i x y hx hy
    · have hy' := (key _ _ hy).2 hj
      have hx' := (key _ _ hx).1
      omega
theorem apply_more {r : RegS} (hm : mayR r = true) (hv : r.view = r.prom) (h1 : 1 ≤ r.view) {p : List Ent} (hp : ∀ e ∈ p, e.1 = r.view ∧ ordOk (ordE e) = true) (hl : r.log.length + p.length ≤ 64) (x : RecS)
    (k1 : x.kind = 2) (k2 : x.epoch = r.view) (k3 : x.from_ = r.log.length) (k4 : x.ents = p) : applyR r x = some { r with log := r.log ++ p } := by
  obtain ⟨⟨m1, m2, m3⟩, m4, m5, m6⟩ := (mayR_iff r).1 hm
  have hf : fromR r x = r.log.length := by unfold fromR; rw [if_pos k2]
  have hL : logR r x = r.log ++ p := by unfold logR; rw [hf, List.take_length, k4]
  unfold applyR
  rw [if_pos hm, if_neg (by rw [k1]; decide), if_pos k1]
  unfold viewR
  rw [hf, hL, k2]
  rw [if_pos ⟨⟨h1, by omega, by omega, k3⟩, okLog_more m4 hp h1 hl, (List.take_prefix _ _).trans (List.prefix_append _ _)⟩]
  rw [hv]
theorem more_may {r : RegS} (hm : mayR r = true) (h1 : 1 ≤ r.view) {p : List Ent} (hp : ∀ e ∈ p, e.1 = r.view ∧ ordOk (ordE e) = true) (hl : r.log.length + p.length ≤ 64) : mayR { r with log := r.log ++ p } = true := by
  obtain ⟨⟨m1, m2, m3⟩, m4, m5, m6⟩ := (mayR_iff r).1 hm
  exact (mayR_iff _).2 ⟨⟨m1, m2, m3⟩, okLog_more m4 hp h1 hl, m5, by show r.com ≤ ((r.log ++ p).length : Int); rw [List.length_append]; omega⟩
end Go.Proofs.Ytdphfhenjndkkaa

set_option linter.unusedSimpArgs false
set_option linter.unusedVariables false
set_option maxRecDepth 100000
namespace Go.Proofs.Ytdphfhenjndkkaa
open Go

/-- A piece of mail, as far as a ballot looks at it. -/
structure MailS where
  kind : Int
  from_ : Int
  to : Int
  stream : Int
  epoch : Int
  view : Int
  base : Int
  len : Int
  stamp : Int
  ents : List Ent
def MailS.reg (m : MailS) : RegS := ⟨m.epoch, m.view, m.ents, m.len⟩
end Go.Proofs.Ytdphfhenjndkkaa

set_option linter.unusedSimpArgs false
set_option linter.unusedVariables false
set_option maxRecDepth 100000
namespace Go.Sq
open Go Go.ChangeShapes Go.WideShapes Go.RowKit Go.Deep
section
variable {H : Type} {enc : TypeId × Value → H} {P : Program} {w : World} {base : Nat} {spare : Nat → Bool} {held : Bool}

theorem single_at {cs : List Value} {j : Nat} (h : j < cs.length) : (cs.drop j).take 1 = [cs[j]] := by
  rw [List.drop_eq_getElem_cons h]; rfl

/-- The cells of a struct, field by field. -/
theorem cells_fields {t : TypeId} {fs : Array Field} {fuel : Nat} {l : List Value} {x : DataW H × List MemPlace} (hs : P.underlying t = some (.struct fs)) (hone : oneCellFields P fs = true)
    (hC : P.cellsOf t = fs.size) (h : DataW.trod enc P w base spare held fuel t l = some x) :
    l.length = fs.size ∧ ∃ n : Nat, ∀ (j : Nat) (f : Field), fs[j]? = some f → ∃ (c : Value) (y : DataW H × List MemPlace), l[j]? = some c ∧ DataW.trod enc P w base spare held n f.type [c] = some y := by
  obtain ⟨xs, n, _, hx, hl, hlen, hg⟩ := DataW.trod_struct hs h
  rw [hC] at hl
  refine ⟨hl, n, fun j f hj => ?_⟩
  obtain ⟨ho, hk⟩ := hone_of hone j f hj
  have hjl : j < fs.size := (Array.getElem?_eq_some_iff.1 hj).1
  have h1 := hg j f hj
  rw [ho, hk] at h1
  rw [single_at (by omega)] at h1
  have hxj : j < xs.length := by omega
  exact ⟨_, xs[j], List.getElem?_eq_getElem (by omega), by rw [h1]; exact List.getElem?_eq_getElem hxj⟩

/-- An array by value: its cells, element by element. -/
theorem open_array {r : Reach} {b0 : Nat} {t e : TypeId} {n : Nat} {v : Value} {d : DataW H} {p : List MemPlace} (ht : P.underlying t = some (.array n e)) (hv : Value.okWide P w r b0 t v)
    (h : DataW.Trod enc P w base spare held t v d p) :
    ∃ (l : List Value) (m : Nat), v = .agg l.toArray ∧ l.length = P.cellsOf t ∧ ∀ i, i < n → ∃ y, DataW.trod enc P w base spare held m e ((l.drop (i * P.cellsOf e)).take (P.cellsOf e)) = some y := by
  simp only [Value.okWide, ht] at hv
  obtain ⟨⟨l⟩, rfl, hsz, _⟩ := hv
  obtain ⟨fuel, hf⟩ := h
  obtain ⟨xs, m, _, _, hl, hlen, hg⟩ := Go.DataW.trod_array ht hf
  refine ⟨l, m, rfl, hsz, fun i hi => ?_⟩
  have h1 := hg i hi
  have hxi : i < xs.length := by omega
  simp only [Value.cells] at h1
  exact ⟨xs[i], by rw [h1]; exact List.getElem?_eq_getElem hxi⟩

theorem add_none (b off n : Nat) : (⟨b, off, none⟩ : Addr).add n = ⟨b, off + n, none⟩ := by
  unfold Addr.add
  by_cases h : n = 0 <;> simp [h]
theorem add_block (a : Addr) (n : Nat) : (a.add n).block = a.block := by
  unfold Addr.add
  by_cases h : n = 0 <;> simp [h]

/-- A slice of structs: what each cell of its elements holds. -/
theorem open_rows {r : Reach} {b0 : Nat} {t e : TypeId} {fs : Array Field} {v : Value} {d : DataW H} {p : List MemPlace} (ht : P.underlying t = some (.slice e)) (hs : P.underlying e = some (.struct fs))
    (hone : oneCellFields P fs = true) (hC : P.cellsOf e = fs.size) (hpos : 0 < fs.size) (hv : Value.okWide P w r b0 t v) (h : DataW.Trod enc P w base spare held t v d p) :
    ∃ (a : Option Addr) (len cap : Nat), v = .slice a len cap ∧ len ≤ cap ∧ cap ≤ maxLen ∧ ∀ i, i < len → ∃ b off, a = some ⟨b, off, none⟩ ∧ b < w.heap.size ∧
      ∃ n : Nat, ∀ (j : Nat) (f : Field), fs[j]? = some f → ∃ (c : Value) (y : DataW H × List MemPlace), w.cell? ⟨b, off + i * fs.size + j, none⟩ = some c ∧ DataW.trod enc P w base spare held n f.type [c] = some y := by
  obtain ⟨a0, len, cap, rfl⟩ := okWide_slice ht hv
  obtain ⟨fuel, hf⟩ := h
  rcases open_slice ht hf with ⟨hcs, _⟩ | ⟨a, l, c, m, n, D, Pl, hcs, _, hl, hm, hmm, _, hi⟩
  · simp [Value.cells] at hcs
    obtain ⟨rfl, rfl, rfl⟩ := hcs
    exact ⟨none, 0, 0, rfl, Nat.le_refl _, by simp [maxLen], fun i hi => by omega⟩
  · simp [Value.cells] at hcs
    obtain ⟨rfl, rfl, rfl⟩ := hcs
    refine ⟨some a, len, cap, rfl, hl, hm, fun i hil => ?_⟩
    have hsp : a.spot = none := by
      obtain ⟨cs', hc, _⟩ := hi 0 (by rw [hmm]; split <;> omega)
      rw [hC] at hc
      obtain ⟨_, hcl, hat⟩ := World.cells?_some hc
      have h0 := hat 0 hpos
      rw [List.getElem?_eq_getElem (show 0 < cs'.length by omega)] at h0
      simpa [Addr.add] using World.cell?_spot h0
    have him : i < m := by rw [hmm]; split <;> omega
    obtain ⟨cs', hc, ht'⟩ := hi i him
    rw [hC] at hc
    obtain ⟨_, n', hg⟩ := cells_fields hs hone hC ht'
    obtain ⟨_, hcl, hat⟩ := World.cells?_some hc
    have h0 := hat 0 hpos
    rw [List.getElem?_eq_getElem (show 0 < cs'.length by omega)] at h0
    have hbl := World.block_lt_of_cell? _ _ h0
    rw [add_block, add_block] at hbl
    obtain ⟨b, off, spot⟩ := a
    obtain rfl : spot = none := hsp
    refine ⟨b, off, rfl, hbl, n', fun j f hj => ?_⟩
    have hjl : j < fs.size := (Array.getElem?_eq_some_iff.1 hj).1
    obtain ⟨c, y, h1, h2⟩ := hg j f hj
    refine ⟨c, y, ?_, h2⟩
    have h3 := hat j hjl
    rw [h1, add_none, add_none] at h3
    exact h3

/-- The value is an aggregate of as many values as there are fields; each reads by its field's type. -/
theorem open_fields {r : Reach} {b0 : Nat} {t : TypeId} {fs : Array Field} {v : Value} {d : DataW H} {p : List MemPlace} (hs : P.underlying t = some (.struct fs)) (hone : oneCellFields P fs = true)
    (hC : P.cellsOf t = fs.size) (hv : Value.okWide P w r b0 t v) (h : DataW.Trod enc P w base spare held t v d p) :
    ∃ (cs : List Value) (n : Nat), v = .agg cs.toArray ∧ cs.length = fs.size ∧
      ∀ (j : Nat) (f : Field), fs[j]? = some f → ∃ (c : Value) (y : DataW H × List MemPlace), cs[j]? = some c ∧ DataW.trod enc P w base spare held n f.type [c] = some y := by
  obtain ⟨⟨l⟩, rfl, hsz⟩ := okWide_struct hs hv
  obtain ⟨fuel, hf⟩ := h
  obtain ⟨xs, n, _, hx, _, hlen, hg⟩ := DataW.trod_struct hs hf
  have hl : l.length = fs.size := by rw [← hC]; exact hsz
  refine ⟨l, n, rfl, hl, fun j f hj => ?_⟩
  obtain ⟨ho, hk⟩ := hone_of hone j f hj
  have hjl : j < fs.size := (Array.getElem?_eq_some_iff.1 hj).1
  have h1 := hg j f hj
  rw [ho, hk] at h1
  simp only [Value.cells] at h1
  rw [single_at (by omega)] at h1
  have hxj : j < xs.length := by omega
  exact ⟨_, xs[j], List.getElem?_eq_getElem (by omega), by rw [h1]; exact List.getElem?_eq_getElem hxj⟩
/-- An array of numbers by value. -/
theorem open_nums {r : Reach} {b0 : Nat} {t e : TypeId} {n : Nat} {k : IntKind} {v : Value} {d : DataW H} {p : List MemPlace} (ht : P.underlying t = some (.array n e)) (he : P.underlying e = some (.int k))
    (hC : P.cellsOf e = 1) (hCt : P.cellsOf t = n) (hv : Value.okWide P w r b0 t v) (h : DataW.Trod enc P w base spare held t v d p) :
    ∃ zs : List Int, zs.length = n ∧ v = .agg (zs.map (Value.int k)).toArray ∧ ∀ z ∈ zs, (Lit.int k z).wf = true := by
  obtain ⟨l, m, rfl, hl, hf⟩ := open_array ht hv h
  rw [hCt] at hl
  rw [hC] at hf
  have key : ∀ (l : List Value), (∀ i, (hi : i < l.length) → ∃ z, l[i] = .int k z ∧ (Lit.int k z).wf = true) → ∃ zs : List Int, l = zs.map (Value.int k) ∧ ∀ z ∈ zs, (Lit.int k z).wf = true := by
    intro l
    induction l with
    | nil => intro _; exact ⟨[], rfl, by simp⟩
    | cons x l ih =>
      intro hh
      obtain ⟨z, hz, hw⟩ := hh 0 (by simp)
      obtain ⟨zs, hzs, hws⟩ := ih (fun i hi => by have := hh (i + 1) (by simp; omega); simpa using this)
      refine ⟨z :: zs, by simp at hz; simp [hz, hzs], ?_⟩
      intro y hy
      rcases List.mem_cons.1 hy with rfl | hy
      · exact hw
      · exact hws y hy
  obtain ⟨zs, hzs, hws⟩ := key l (fun i hi => by
    obtain ⟨y, hy⟩ := hf i (by omega)
    rw [Nat.mul_one, single_at hi] at hy
    obtain ⟨z, hcz, _, hw⟩ := DataW.trod_int he hy
    exact ⟨z, by simpa using hcz, hw⟩)
  exact ⟨zs, by rw [hzs] at hl; simpa using hl, by rw [hzs], hws⟩
end
theorem wf_u8 {a : Int} (h : (Lit.int .u8 a).wf = true) : 0 ≤ a ∧ a ≤ 255 := by
  simp only [Lit.wf, Bool.and_eq_true, decide_eq_true_eq] at h
  exact h
theorem wf_u16 {a : Int} (h : (Lit.int .u16 a).wf = true) : 0 ≤ a ∧ a ≤ 65535 := by
  simp only [Lit.wf, Bool.and_eq_true, decide_eq_true_eq] at h
  exact h
theorem wf_i64 {a : Int} (h : (Lit.int .i64 a).wf = true) : -9223372036854775808 ≤ a ∧ a ≤ 9223372036854775807 := by
  simp only [Lit.wf, Bool.and_eq_true, decide_eq_true_eq] at h
  exact h
theorem i64_wf {a : Int} (h : -9223372036854775808 ≤ a) (h2 : a ≤ 9223372036854775807) : (Lit.int .i64 a).wf = true := by
  simp only [Lit.wf, Bool.and_eq_true, decide_eq_true_eq]
  exact ⟨h, h2⟩
theorem len1 {α : Type} {l : List α} (h : l.length = 1) : ∃ a0, l = [a0] := by
  match l, h with
  | [a0], _ => exact ⟨a0, rfl⟩
theorem len2 {α : Type} {l : List α} (h : l.length = 2) : ∃ a0 a1, l = [a0, a1] := by
  match l, h with
  | [a0, a1], _ => exact ⟨a0, a1, rfl⟩
theorem len3 {α : Type} {l : List α} (h : l.length = 3) : ∃ a0 a1 a2, l = [a0, a1, a2] := by
  match l, h with
  | [a0, a1, a2], _ => exact ⟨a0, a1, a2, rfl⟩
theorem len4 {α : Type} {l : List α} (h : l.length = 4) : ∃ a0 a1 a2 a3, l = [a0, a1, a2, a3] := by
  match l, h with
  | [a0, a1, a2, a3], _ => exact ⟨a0, a1, a2, a3, rfl⟩
theorem len5 {α : Type} {l : List α} (h : l.length = 5) : ∃ a0 a1 a2 a3 a4, l = [a0, a1, a2, a3, a4] := by
  match l, h with
  | [a0, a1, a2, a3, a4], _ => exact ⟨a0, a1, a2, a3, a4, rfl⟩
theorem len6 {α : Type} {l : List α} (h : l.length = 6) : ∃ a0 a1 a2 a3 a4 a5, l = [a0, a1, a2, a3, a4, a5] := by
  match l, h with
  | [a0, a1, a2, a3, a4, a5], _ => exact ⟨a0, a1, a2, a3, a4, a5, rfl⟩
theorem len7 {α : Type} {l : List α} (h : l.length = 7) : ∃ a0 a1 a2 a3 a4 a5 a6, l = [a0, a1, a2, a3, a4, a5, a6] := by
  match l, h with
  | [a0, a1, a2, a3, a4, a5, a6], _ => exact ⟨a0, a1, a2, a3, a4, a5, a6, rfl⟩
theorem len8 {α : Type} {l : List α} (h : l.length = 8) : ∃ a0 a1 a2 a3 a4 a5 a6 a7, l = [a0, a1, a2, a3, a4, a5, a6, a7] := by
  match l, h with
  | [a0, a1, a2, a3, a4, a5, a6, a7], _ => exact ⟨a0, a1, a2, a3, a4, a5, a6, a7, rfl⟩
end Go.Sq

set_option linter.unusedSimpArgs false
set_option linter.unusedVariables false
set_option maxRecDepth 100000
namespace Go.Proofs.Ytdphfhenjndkkaa
open Go Go.RowKit Go.Sq

def sitesE (n : Int) : Bool := decide (2 ≤ n ∧ n ≤ 7)
def ofE (e n : Int) : Int := if 1 ≤ e ∧ e ≤ 1048576 ∧ sitesE n = true then (e - 1) % n else -1
def majE (n : Int) : Int := if sitesE n = true then n / 2 + 1 else 0
def stepE (e s n : Int) : Int := e + 1 + (s - e % n + n) % n
def nextOk (e s n : Int) : Prop := sitesE n = true ∧ 0 ≤ s ∧ s < n ∧ 0 ≤ e ∧ e ≤ 1048576
instance (e s n : Int) : Decidable (nextOk e s n) := by unfold nextOk; infer_instance
def nextE (e s n : Int) : Int × Int := if nextOk e s n then (if stepE e s n ≤ 1048576 then (stepE e s n, 0) else (0, 3)) else (0, 2)
theorem sites_cases {n : Int} (h : sitesE n = true) : n = 2 ∨ n = 3 ∨ n = 4 ∨ n = 5 ∨ n = 6 ∨ n = 7 := by
  unfold sitesE at h
  simp only [decide_eq_true_eq] at h
  omega

theorem sites_any (n : Int) (w : World) : Calls Try.prog 81 #[.int .i64 n] w fun e w' => e = .returned (.bool (sitesE n)) ∧ w' = w := by
  go_enter Try.func81, Try.ntmps81
  go_wp2
  all_goals (go_ret; refine ⟨ret_bool ?_, rfl⟩; rw [Bool.eq_iff_iff]; simp [sitesE] at *; first | done | omega)
theorem of_any (x n : Int) (w : World) : Calls Try.prog 75 #[.int .i64 x, .int .i64 n] w fun e w' => e = .returned (.int .i64 (ofE x n)) ∧ w' = w := by
  by_cases h1 : x < 1
  · have hN := Lib.hid (show ofE x n = -1 from if_neg (by omega))
    go_enter Try.func75, Try.ntmps75
    go_wp2_with fail
    go_ret
    rw [hN.out]
    exact ⟨rfl, rfl⟩
  by_cases h2 : 1048576 < x
  · have hN := Lib.hid (show ofE x n = -1 from if_neg (by omega))
    go_enter Try.func75, Try.ntmps75
    go_wp2_with fail
    go_ret
    rw [hN.out]
    exact ⟨rfl, rfl⟩
  cases hs : sitesE n with
  | false =>
    have hN := Lib.hid (show ofE x n = -1 from if_neg (by rw [hs]; simp))
    have hc := sites_any n w
    rw [hs] at hc
    have HC := Lib.hid hc
    clear hc hs
    go_enter Try.func75, Try.ntmps75
    go_wp2_with fail
    refine HC.out.mono ?_
    rintro e w1 ⟨rfl, rfl⟩
    go_wp2_with fail
    go_ret
    rw [hN.out]
    exact ⟨rfl, rfl⟩
  | true =>
    have hN := Lib.hid (show ofE x n = (x - 1) % n from if_pos ⟨by omega, by omega, hs⟩)
    have hc := sites_any n w
    rw [hs] at hc
    have HC := Lib.hid hc
    clear hc
    rcases sites_cases hs with rfl | rfl | rfl | rfl | rfl | rfl
    all_goals
      clear hs
      go_enter Try.func75, Try.ntmps75
      go_wp2_with fail
      refine HC.out.mono ?_
      rintro e w1 ⟨rfl, rfl⟩
      go_wp2_with fail
      go_ret
      rw [hN.out]
      exact ⟨rfl, rfl⟩
theorem maj_any (n : Int) (w : World) : Calls Try.prog 82 #[.int .i64 n] w fun e w' => e = .returned (.int .i64 (majE n)) ∧ w' = w := by
  cases hs : sitesE n with
  | false =>
    have hN := Lib.hid (show majE n = 0 from if_neg (by rw [hs]; simp))
    have hc := sites_any n w
    rw [hs] at hc
    have HC := Lib.hid hc
    clear hc hs
    go_enter Try.func82, Try.ntmps82
    go_wp2_with fail
    refine HC.out.mono ?_
    rintro e w1 ⟨rfl, rfl⟩
    go_wp2_with fail
    go_ret
    rw [hN.out]
    exact ⟨rfl, rfl⟩
  | true =>
    have hN := Lib.hid (show majE n = n / 2 + 1 from if_pos hs)
    have hc := sites_any n w
    rw [hs] at hc
    have HC := Lib.hid hc
    clear hc
    rcases sites_cases hs with rfl | rfl | rfl | rfl | rfl | rfl
    all_goals
      clear hs
      go_enter Try.func82, Try.ntmps82
      go_wp2_with fail
      refine HC.out.mono ?_
      rintro e w1 ⟨rfl, rfl⟩
      go_wp2_with fail
      go_ret
      rw [hN.out]
      exact ⟨rfl, rfl⟩
end Go.Proofs.Ytdphfhenjndkkaa

set_option linter.unusedSimpArgs false
set_option linter.unusedVariables false
set_option maxRecDepth 100000
namespace Go.Proofs.Ytdphfhenjndkkaa

/-- A rank: view, entries. -/
abbrev Rank := Int × Int
def Better (a b : Rank) : Prop := b.1 < a.1 ∨ (b.1 = a.1 ∧ b.2 < a.2)
instance (a b : Rank) : Decidable (Better a b) := by unfold Better; infer_instance

def bestTo (l : List Rank) : Nat → Nat
  | 0 => 0
  | j + 1 => match l[j + 1]?, l[bestTo l j]? with
    | some x, some m => if Better x m then j + 1 else bestTo l j
    | _, _ => bestTo l j

theorem best_le (l : List Rank) : ∀ j, bestTo l j ≤ j
  | 0 => Nat.le_refl _
  | j + 1 => by
    have := best_le l j
    unfold bestTo
    split
    · split <;> omega
    · omega

theorem best_yes {l : List Rank} {j : Nat} {x m : Rank} (hx : l[j + 1]? = some x) (hm : l[bestTo l j]? = some m) (h : Better x m) : bestTo l (j + 1) = j + 1 := by
  simp only [bestTo, hx, hm, h, if_true]
theorem best_no {l : List Rank} {j : Nat} {x m : Rank} (hx : l[j + 1]? = some x) (hm : l[bestTo l j]? = some m) (h : ¬ Better x m) : bestTo l (j + 1) = bestTo l j := by
  simp only [bestTo, hx, hm, h, if_false]

/-- The best one: none is better, and what stands ahead of it is worse. -/
theorem best_is (l : List Rank) : ∀ j, j < l.length → ∀ m, l[bestTo l j]? = some m → ∀ i x, i ≤ j → l[i]? = some x → ¬ Better x m ∧ (i < bestTo l j → Better m x) := by
  intro j
  induction j with
  | zero =>
    intro _ m hm i x hi hx
    obtain rfl : i = 0 := by omega
    simp only [bestTo] at hm ⊢
    rw [hx] at hm
    cases hm
    exact ⟨by unfold Better; omega, fun h => absurd h (by omega)⟩
  | succ j ih =>
    intro hj m hm i x hi hx
    have hb := best_le l j
    obtain ⟨y, hy⟩ : ∃ y, l[j + 1]? = some y := ⟨_, List.getElem?_eq_getElem hj⟩
    obtain ⟨k, hk⟩ : ∃ k, l[bestTo l j]? = some k := ⟨_, List.getElem?_eq_getElem (by omega)⟩
    have ih := ih (by omega) k hk
    by_cases hbt : Better y k
    · rw [best_yes hy hk hbt] at hm ⊢
      rw [hy] at hm
      cases hm
      by_cases hij : i = j + 1
      · subst hij
        rw [hx] at hy
        cases hy
        exact ⟨by unfold Better; omega, fun h => absurd h (by omega)⟩
      · have h1 := (ih i x (by omega) hx).1
        unfold Better at *
        exact ⟨by omega, fun _ => by omega⟩
    · rw [best_no hy hk hbt] at hm ⊢
      rw [hk] at hm
      cases hm
      by_cases hij : i = j + 1
      · subst hij
        rw [hx] at hy
        cases hy
        exact ⟨hbt, fun h => absurd h (by omega)⟩
      · exact ih i x (by omega) hx

/-- Where the best one stands; -1: there is none. -/
def bestL (l : List Rank) : Int := if l.length = 0 then -1 else (bestTo l (l.length - 1) : Nat)
end Go.Proofs.Ytdphfhenjndkkaa

set_option linter.unusedSimpArgs false
set_option linter.unusedVariables false
set_option maxRecDepth 100000
namespace Go.Proofs.Ytdphfhenjndkkaa
open Go Go.RowKit Go.Sq Go.Wd

/-- What a ballot begins with. -/
structure BegS where
  stream : Int
  epoch : Int
  site : Int
  n : Int
  stamp : Int
abbrev Slots := Nat → Option RegS
def put7 (S : Slots) (k : Nat) (r : RegS) : Slots := fun i => if i = k then some r else S i
theorem put7_at (S : Slots) (k : Nat) (r : RegS) : put7 S k r k = some r := if_pos rfl
theorem put7_far (S : Slots) {k i : Nat} (r : RegS) (h : i ≠ k) : put7 S k r i = S i := if_neg h
def no7 : Slots := fun _ => none

def newOk (b : BegS) (own : RegS) : Prop := 0 ≤ b.stream ∧ b.stream < 4 ∧ sitesE b.n = true ∧ 0 ≤ b.site ∧ ofE b.epoch b.n = b.site ∧ b.epoch ≤ 1048576 ∧ mayR own = true ∧ own.prom = b.epoch ∧ own.view < b.epoch
instance (b : BegS) (own : RegS) : Decidable (newOk b own) := by unfold newOk; infer_instance
/-- Ahead of the look at what it has. -/
def addPre (b : BegS) (S : Slots) (m : MailS) : Prop := m.kind = 2 ∧ m.stream = b.stream ∧ m.epoch = b.epoch ∧ m.to = b.site ∧ 0 ≤ m.from_ ∧ m.from_ < b.n ∧ S m.from_.toNat = none ∧ m.stamp = b.stamp
def addOk (b : BegS) (S : Slots) (m : MailS) : Prop := addPre b S m ∧ mayR m.reg = true ∧ m.view < b.epoch
instance (b : BegS) (S : Slots) (m : MailS) : Decidable (addPre b S m) := by unfold addPre; infer_instance
instance (b : BegS) (S : Slots) (m : MailS) : Decidable (addOk b S m) := by unfold addOk; infer_instance
def addS (b : BegS) (S : Slots) (m : MailS) : Slots := if addOk b S m then put7 S m.from_.toNat m.reg else S

def listTo (S : Slots) (j : Nat) : List RegS := (List.range j).filterMap S
theorem listTo_some {S : Slots} {j : Nat} {r : RegS} (h : S j = some r) : listTo S (j + 1) = listTo S j ++ [r] := by
  unfold listTo
  rw [List.range_succ, List.filterMap_append]
  simp [h]
theorem listTo_none {S : Slots} {j : Nat} (h : S j = none) : listTo S (j + 1) = listTo S j := by
  unfold listTo
  rw [List.range_succ, List.filterMap_append]
  simp [h]
theorem listTo_len (S : Slots) (j : Nat) : (listTo S j).length ≤ j := by
  unfold listTo
  have := List.length_filterMap_le S (List.range j)
  rw [List.length_range] at this
  exact this
def wonS (b : BegS) (S : Slots) : Bool := decide (majE b.n ≤ ((listTo S 7).length : Int))

def pairL (S : Slots) (l : List Nat) : List (Int × RegS) := l.filterMap fun i => (S i).map fun r => ((i : Int), r)
def pairs (S : Slots) : List (Int × RegS) := pairL S (List.range 7)
theorem pairL_snd (S : Slots) : ∀ l : List Nat, (pairL S l).map (·.2) = l.filterMap S
  | [] => rfl
  | a :: l => by
    have ih := pairL_snd S l
    unfold pairL at ih ⊢
    cases h : S a with
    | none => simp [h, ih]
    | some r => simp [h, ih]
theorem pairs_list (S : Slots) : (pairs S).map (·.2) = listTo S 7 := pairL_snd S _
theorem pairs_len (S : Slots) : (pairs S).length = (listTo S 7).length := by rw [← pairs_list, List.length_map]
theorem mem_pairs {S : Slots} {i : Int} {r : RegS} : (i, r) ∈ pairs S ↔ ∃ k : Nat, k < 7 ∧ i = k ∧ S k = some r := by
  unfold pairs pairL
  rw [List.mem_filterMap]
  constructor
  · rintro ⟨k, hk, h⟩
    cases hs : S k with
    | none => simp [hs] at h
    | some q =>
      simp [hs] at h
      exact ⟨k, by simpa using hk, h.1.symm, by rw [hs, h.2]⟩
  · rintro ⟨k, hk, rfl, hs⟩
    exact ⟨k, by simpa using hk, by simp [hs]⟩
theorem pairL_congr {S T : Slots} : ∀ {l : List Nat}, (∀ x ∈ l, S x = T x) → pairL S l = pairL T l
  | [], _ => rfl
  | a :: l, h => by
    have ih := pairL_congr (l := l) (fun x hx => h x (by simp [hx]))
    unfold pairL at ih ⊢
    rw [List.filterMap_cons, List.filterMap_cons, h a (by simp), ih]
theorem pairL_put {S : Slots} {k : Nat} (r : RegS) (hS : S k = none) : ∀ l : List Nat, l.Nodup → k ∈ l → (pairL (put7 S k r) l).Perm (pairL S l ++ [((k : Int), r)])
  | [], _, h => by simp at h
  | a :: l, hn, h => by
    rw [List.nodup_cons] at hn
    by_cases ha : a = k
    · subst ha
      have h1 : pairL (put7 S a r) (a :: l) = ((a : Int), r) :: pairL S l := by
        have h2 : pairL (put7 S a r) l = pairL S l := pairL_congr fun x hx => put7_far S r (fun e => hn.1 (e ▸ hx))
        unfold pairL at h2 ⊢
        rw [List.filterMap_cons, put7_at]
        simp only [Option.map_some]
        rw [h2]
      have h3 : pairL S (a :: l) = pairL S l := by
        unfold pairL
        rw [List.filterMap_cons, hS]
        rfl
      rw [h1, h3]
      exact (List.perm_append_singleton _ _).symm
    · have hk : k ∈ l := by
        rcases List.mem_cons.1 h with h | h
        · exact absurd h.symm ha
        · exact h
      have ih := pairL_put r hS l hn.2 hk
      unfold pairL at ih ⊢
      rw [List.filterMap_cons, List.filterMap_cons, put7_far S r ha]
      cases S a with
      | none => simpa using ih
      | some q => simpa using ih
theorem pairs_put {S : Slots} {k : Nat} (r : RegS) (hS : S k = none) (hk : k < 7) : (pairs (put7 S k r)).Perm (pairs S ++ [((k : Int), r)]) := pairL_put r hS _ List.nodup_range (by simpa using hk)
theorem pairs_no : pairs no7 = [] := by decide
theorem pairs_sorted (S : Slots) : (pairs S).Pairwise fun a b => a.1 < b.1 := by
  unfold pairs pairL
  rw [List.pairwise_filterMap]
  refine List.pairwise_lt_range.imp ?_
  intro a b h p hp q hq
  cases ha : S a with
  | none => simp [ha] at hp
  | some x =>
    cases hb : S b with
    | none => simp [hb] at hq
    | some y =>
      simp [ha] at hp
      simp [hb] at hq
      subst hp hq
      show (a : Int) < b
      omega

/-- The document's order among registers. -/
def BetterD (a b : Int × RegS) : Prop := b.2.view < a.2.view ∨ (b.2.view = a.2.view ∧ (b.2.log.length < a.2.log.length ∨ (b.2.log.length = a.2.log.length ∧ a.1 < b.1)))
instance (a b : Int × RegS) : Decidable (BetterD a b) := by unfold BetterD; infer_instance
def IsBest (L : List (Int × RegS)) (p : Int × RegS) : Prop := p ∈ L ∧ ∀ q ∈ L, ¬ BetterD q p
theorem best_one {S : Slots} {p q : Int × RegS} (hp : IsBest (pairs S) p) (hq : IsBest (pairs S) q) : p = q := by
  have h1 := hp.2 q hq.1
  have h2 := hq.2 p hp.1
  obtain ⟨i, r⟩ := p
  obtain ⟨j, s⟩ := q
  obtain ⟨a, _, rfl, ha⟩ := mem_pairs.1 hp.1
  obtain ⟨b, _, rfl, hb⟩ := mem_pairs.1 hq.1
  unfold BetterD at h1 h2
  simp only at h1 h2
  have hab : a = b := by omega
  subst hab
  rw [ha] at hb
  cases hb
  rfl
theorem isBest_perm {L M : List (Int × RegS)} (h : L.Perm M) {p : Int × RegS} (hp : IsBest L p) : IsBest M p := ⟨h.mem_iff.1 hp.1, fun q hq => hp.2 q (h.mem_iff.2 hq)⟩
/-- The document's best one of the first ones. -/
def bestD : List (Int × RegS) → Nat → Int × RegS
  | L, 0 => L.headD (0, reg0)
  | L, j + 1 => match L[j + 1]? with
    | some x => if BetterD x (bestD L j) then x else bestD L j
    | none => bestD L j
theorem bestD_is (L : List (Int × RegS)) : ∀ j, j < L.length → bestD L j ∈ L.take (j + 1) ∧ ∀ q ∈ L.take (j + 1), ¬ BetterD q (bestD L j)
  | 0, h => by
    cases L with
    | nil => simp at h
    | cons a L =>
      simp [bestD]
      unfold BetterD
      omega
  | j + 1, h => by
    have ih := bestD_is L j (by omega)
    obtain ⟨x, hx⟩ : ∃ x, L[j + 1]? = some x := ⟨_, List.getElem?_eq_getElem h⟩
    have ht : L.take (j + 2) = L.take (j + 1) ++ [x] := by
      rw [List.take_add_one, hx]
      rfl
    rw [ht]
    have hb : bestD L (j + 1) = if BetterD x (bestD L j) then x else bestD L j := by
      simp only [bestD, hx]
    rw [hb]
    by_cases hc : BetterD x (bestD L j)
    · rw [if_pos hc]
      refine ⟨by simp, fun q hq => ?_⟩
      rcases List.mem_append.1 hq with hq | hq
      · have := ih.2 q hq
        unfold BetterD at this hc ⊢
        omega
      · obtain rfl : q = x := by simpa using hq
        unfold BetterD
        omega
    · rw [if_neg hc]
      refine ⟨List.mem_append_left _ ih.1, fun q hq => ?_⟩
      rcases List.mem_append.1 hq with hq | hq
      · exact ih.2 q hq
      · obtain rfl : q = x := by simpa using hq
        exact hc
theorem bestD_best (L : List (Int × RegS)) (h : 0 < L.length) : IsBest L (bestD L (L.length - 1)) := by
  have := bestD_is L (L.length - 1) (by omega)
  rw [show L.length - 1 + 1 = L.length by omega, List.take_length] at this
  exact this

def rankS (r : RegS) : Rank := (r.view, (r.log.length : Int))
/-- Where the program's best one stands. -/
def bestAt (S : Slots) : Nat := bestTo ((listTo S 7).map rankS) ((listTo S 7).length - 1)
theorem bestAt_is {S : Slots} (h : 0 < (listTo S 7).length) : ∃ p, (pairs S)[bestAt S]? = some p ∧ (listTo S 7)[bestAt S]? = some p.2 ∧ IsBest (pairs S) p := by
  have hl : bestAt S < (listTo S 7).length := by
    have := best_le ((listTo S 7).map rankS) ((listTo S 7).length - 1)
    unfold bestAt
    omega
  have hpl := pairs_len S
  obtain ⟨p, hp⟩ : ∃ p, (pairs S)[bestAt S]? = some p := ⟨_, List.getElem?_eq_getElem (by omega)⟩
  have hr : ∀ (t : Nat) (q : Int × RegS), (pairs S)[t]? = some q → (listTo S 7)[t]? = some q.2 := fun t q hq => by
    rw [← pairs_list, List.getElem?_map, hq]
    rfl
  refine ⟨p, hp, hr _ _ hp, List.mem_of_getElem? hp, fun q hq => ?_⟩
  obtain ⟨t, ht⟩ := List.getElem?_of_mem hq
  have htl : t < (listTo S 7).length := by
    have := (List.getElem?_eq_some_iff.1 ht).1
    omega
  have hm : ∀ (t : Nat) (q : Int × RegS), (pairs S)[t]? = some q → ((listTo S 7).map rankS)[t]? = some (rankS q.2) := fun t q hq => by
    rw [List.getElem?_map, hr t q hq]
    rfl
  have hb := best_is ((listTo S 7).map rankS) ((listTo S 7).length - 1) (by rw [List.length_map]; omega) (rankS p.2) (hm _ _ hp) t (rankS q.2) (by omega) (hm _ _ ht)
  have hs : bestAt S < t → p.1 < q.1 := fun hlt => by
    have h1 := (List.getElem?_eq_some_iff.1 hp)
    have h2 := (List.getElem?_eq_some_iff.1 ht)
    obtain ⟨a1, a2⟩ := h1
    obtain ⟨b1, b2⟩ := h2
    have := List.pairwise_iff_getElem.1 (pairs_sorted S) _ _ a1 b1 hlt
    rw [a2, b2] at this
    exact this
  have he : bestAt S = t → p = q := fun e => by
    subst e
    rw [hp] at ht
    exact Option.some.inj ht
  have hb1 := hb.1
  have hb2 := hb.2
  change t < bestAt S → _ at hb2
  unfold Better rankS at hb1 hb2
  simp only at hb1 hb2
  unfold BetterD
  rcases Nat.lt_trichotomy t (bestAt S) with h1 | h1 | h1
  · have := hb2 h1
    omega
  · have := he h1.symm
    subst this
    omega
  · have := hs h1
    omega

/-- How much is committed, of the first ones. -/
def comTo (n : Nat) (c : Int) (l : List RegS) : Int := l.foldl (fun c r => if r.com ≤ (n : Int) then max c r.com else c) c
theorem comTo_snoc (n : Nat) (c : Int) (l : List RegS) (r : RegS) : comTo n c (l ++ [r]) = if r.com ≤ (n : Int) then max (comTo n c l) r.com else comTo n c l := by
  unfold comTo
  rw [List.foldl_append]
  rfl
theorem comTo_is (n : Nat) : ∀ (l : List RegS) (c : Int), c ≤ comTo n c l ∧ (∀ r ∈ l, r.com ≤ (n : Int) → r.com ≤ comTo n c l) ∧ (comTo n c l = c ∨ ∃ r ∈ l, r.com ≤ (n : Int) ∧ r.com = comTo n c l)
  | [], c => ⟨Int.le_refl _, by simp, .inl rfl⟩
  | a :: l, c => by
    have h0 : comTo n c (a :: l) = comTo n (if a.com ≤ (n : Int) then max c a.com else c) l := rfl
    obtain ⟨h1, h2, h3⟩ := comTo_is n l (if a.com ≤ (n : Int) then max c a.com else c)
    rw [h0]
    generalize comTo n (if a.com ≤ (n : Int) then max c a.com else c) l = z at h1 h2 h3 ⊢
    by_cases ha : a.com ≤ (n : Int)
    · rw [if_pos ha] at h1 h3
      refine ⟨by omega, fun r hr hn => ?_, ?_⟩
      · rcases List.mem_cons.1 hr with rfl | hr
        · omega
        · exact h2 r hr hn
      · rcases h3 with h3 | ⟨r, hr, e1, e2⟩
        · rcases Int.le_total a.com c with hc | hc
          · left; omega
          · right; exact ⟨a, by simp, ha, by omega⟩
        · right; exact ⟨r, by simp [hr], e1, e2⟩
    · rw [if_neg ha] at h1 h3
      refine ⟨h1, fun r hr hn => ?_, ?_⟩
      · rcases List.mem_cons.1 hr with rfl | hr
        · exact absurd hn ha
        · exact h2 r hr hn
      · rcases h3 with h3 | ⟨r, hr, e1, e2⟩
        · exact .inl h3
        · right; exact ⟨r, by simp [hr], e1, e2⟩
theorem comTo_perm {n : Nat} {l m : List RegS} (h : l.Perm m) : comTo n 0 l = comTo n 0 m := by
  obtain ⟨a1, a2, a3⟩ := comTo_is n l 0
  obtain ⟨b1, b2, b3⟩ := comTo_is n m 0
  have h1 : comTo n 0 l ≤ comTo n 0 m := by
    rcases a3 with e | ⟨r, hr, e1, e2⟩
    · omega
    · have := b2 r (h.mem_iff.1 hr) e1
      omega
  have h2 : comTo n 0 m ≤ comTo n 0 l := by
    rcases b3 with e | ⟨r, hr, e1, e2⟩
    · omega
    · have := a2 r (h.mem_iff.2 hr) e1
      omega
  omega

/-- The log that is chosen. -/
def bestLog (S : Slots) : List Ent := (((listTo S 7)[bestAt S]?).getD reg0).log
def chosenS (b : BegS) (S : Slots) : List Ent × Int × Int := if wonS b S = true then (bestLog S, comTo (bestLog S).length 0 (listTo S 7), 0) else ([], 0, 4)
def chosenD (b : BegS) (L : List (Int × RegS)) : List Ent × Int × Int :=
  if majE b.n ≤ (L.length : Int) then ((bestD L (L.length - 1)).2.log, comTo (bestD L (L.length - 1)).2.log.length 0 (L.map (·.2)), 0) else ([], 0, 4)
/-- The document's list has what the slots have. -/
def RelB (S : Slots) (L : List (Int × RegS)) : Prop := L.Perm (pairs S)
theorem relB_len {S : Slots} {L : List (Int × RegS)} (h : RelB S L) : L.length = (listTo S 7).length := by rw [h.length_eq, pairs_len]
theorem relB_put {S : Slots} {L : List (Int × RegS)} (h : RelB S L) {k : Nat} (r : RegS) (hS : S k = none) (hk : k < 7) : RelB (put7 S k r) (L ++ [((k : Int), r)]) :=
  (h.append_right _).trans (pairs_put r hS hk).symm
theorem relB_new (k : Nat) (r : RegS) (hk : k < 7) : RelB (put7 no7 k r) [((k : Int), r)] := relB_put (S := no7) (L := []) (by unfold RelB; rw [pairs_no]) r rfl hk
theorem chosen_same {b : BegS} (hn : sitesE b.n = true) {S : Slots} {L : List (Int × RegS)} (h : RelB S L) : chosenD b L = chosenS b S := by
  unfold chosenD chosenS wonS
  rw [relB_len h]
  by_cases hw : majE b.n ≤ ((listTo S 7).length : Int)
  · have hl : 0 < (listTo S 7).length := by
      unfold majE at hw
      rw [if_pos hn] at hw
      rcases sites_cases hn with e | e | e | e | e | e <;> rw [e] at hw <;> omega
    obtain ⟨p, h1, h2, h3⟩ := bestAt_is hl
    have h4 := isBest_perm h (bestD_best L (by rw [relB_len h]; exact hl))
    rw [relB_len h] at h4
    have h5 := best_one h3 h4
    have hb : bestLog S = p.2.log := by
      unfold bestLog
      rw [h2]
      rfl
    have hp : (L.map (·.2)).Perm (listTo S 7) := by
      rw [← pairs_list]
      exact h.map _
    rw [if_pos hw, if_pos (by simpa using hw), hb, ← h5, comTo_perm hp]
  · rw [if_neg hw, if_neg (by simpa using hw)]
end Go.Proofs.Ytdphfhenjndkkaa

set_option linter.unusedSimpArgs false
set_option linter.unusedVariables false
set_option maxRecDepth 100000
namespace Go.Wd
open Go Go.RowKit

theorem Blk.row {w : World} {g : Nat} {t : TypeId} {old : List Value} (h : Blk w g t old) (cs : List Value) : Blk (w.setRow g cs.toArray) g t cs := setRow_heap w g _ _ t _ h
theorem Blk.rowFar {w : World} {g k : Nat} {t : TypeId} {cs : List Value} (h : Blk w k t cs) (hk : k ≠ g) (l : Array Value) : Blk (w.setRow g l) k t cs := (setRow_other w g k l hk).trans h

/-- A walk stops ahead of the operation that writes this slot: 'go_wp2_with (refine cut_at N rfl ?_)', then 'refine Cut.go ?_'. -/
def Cut (p : Prop) : Prop := p
theorem Cut.go {p : Prop} (h : p) : Cut p := h
theorem cut_at {P : Program} {w : World} {ops : Array Oper} {rest : List Oper} {o : Oper} {a : Act} {Q : Exit → Act → World → Prop} (n : Nat) (ho : o.dst = some n) (h : Cut (wpList P ops Q (o :: rest) a w)) : wpList P ops Q (o :: rest) a w := h

/-- A guard: 'with_reducible refine at_list ?_' goes through at a list of operations alone. -/
theorem at_list {P : Program} {w : World} {ops : Array Oper} {rest : List Oper} {o : Oper} {a : Act} {Q : Exit → Act → World → Prop} (h : wpList P ops Q (o :: rest) a w) : wpList P ops Q (o :: rest) a w := h

theorem wpList_load_blk {P : Program} {w : World} {ops : Array Oper} {rest : List Oper} {o : Oper} {a : Act} {Q : Exit → Act → World → Prop} (hgd : o.guard = none) (ty : TypeId) (x : Operand) (ho : o.op = .load ty x)
    (g : Nat) (hx : a.eval x = .pointer (some ⟨g, 0, none⟩)) (t : TypeId) (cs : List Value) (d : TypeDesc) (hg : Blk w g t cs)
    (hu : P.underlying ty = some d) (hd : (match d with | .struct _ | .array _ _ => true | _ => false) = true) (hi : (P.info? ty).map (·.size) = some cs.length)
    (h : wpList P ops Q rest (a.put o.dst (.agg cs.toArray)) w) : wpList P ops Q (o :: rest) a w :=
  wpList_load_row hgd ty x ho g hx t cs.toArray (0, 0) d hg hu hd (by simpa using hi) h

theorem wpList_store_blk {P : Program} {w : World} {ops : Array Oper} {rest : List Oper} {o : Oper} {a : Act} {Q : Exit → Act → World → Prop} (hgd : o.guard = none) (ty : TypeId) (x y : Operand) (ho : o.op = .store ty x y)
    (g : Nat) (cs : List Value) (hx : a.eval x = .pointer (some ⟨g, 0, none⟩)) (hy : a.eval y = .agg cs.toArray) (t : TypeId) (old : List Value) (hg : Blk w g t old)
    (hi : (P.info? ty).map (·.size) = some cs.length) (hold : old.length = cs.length) (h1 : ∀ v ∈ cs, v.oneCell' = true)
    (h : ∀ w', Blk w' g t cs → (∀ B, B ≤ g → Below B w w') → (∀ k T l, k ≠ g → Blk w k T l → Blk w' k T l) → wpList P ops Q rest (a.put o.dst undef) w') : wpList P ops Q (o :: rest) a w :=
  wpList_store_row hgd ty x y ho g cs.toArray hx hy t old.toArray hg (by simpa using hi) (by simpa using hold)
    (Array.all_eq_true_iff_forall_mem.2 (fun v hv => h1 v (by simpa using hv)))
    (h _ (hg.row cs) (fun B hB => below_setRow (Below.refl B w) hB _) (fun k T l hk hb => hb.rowFar hk _))

/-- Results: a struct that lies whole in a block, and a number. -/
theorem results_blk_tmp {P : Program} {fn : Func} {p q : Tmp} {ty : TypeId} (h : fn.results = #[.cell p ty, .tmp q]) (tmps : Array Value) (w : World) (g : Nat) (t : TypeId) (cs : List Value) (d : TypeDesc)
    (hp : tmps.getD p undef = .pointer (some ⟨g, 0, none⟩)) (hg : Blk w g t cs) (hu : P.underlying ty = some d) (hd : (match d with | .struct _ | .array _ _ => true | _ => false) = true) (hi : (P.info? ty).map (·.size) = some cs.length)
    (v : Value) (hv : tmps.getD q undef = v) : (results fn tmps).run P w = .ok (.tuple #[.agg cs.toArray, v]) w := by
  have hp' : tmps[p]?.getD undef = .pointer (some ⟨g, 0, none⟩) := by simpa using hp
  have hv' : tmps[q]?.getD undef = v := by simpa using hv
  simp [results, h, hp', hv', asAddr, run_loadVar_row w g t ty cs.toArray (0, 0) d hg hu hd (by simpa using hi)]
theorem results_blk {P : Program} {fn : Func} {p : Tmp} {ty : TypeId} (h : fn.results = #[.cell p ty]) (tmps : Array Value) (w : World) (g : Nat) (t : TypeId) (cs : List Value) (d : TypeDesc)
    (hp : tmps.getD p undef = .pointer (some ⟨g, 0, none⟩)) (hg : Blk w g t cs) (hu : P.underlying ty = some d) (hd : (match d with | .struct _ | .array _ _ => true | _ => false) = true) (hi : (P.info? ty).map (·.size) = some cs.length) :
    (results fn tmps).run P w = .ok (.agg cs.toArray) w := results_cell_row h tmps w g t cs.toArray (0, 0) d hp hg hu hd (by simpa using hi)
end Go.Wd

set_option linter.unusedSimpArgs false
set_option linter.unusedVariables false
set_option maxRecDepth 100000
namespace Go.Wd
open Go Go.RowKit

def setAll : List Value → Nat → List Value → List Value
  | cs, _, [] => cs
  | cs, o, v :: r => setAll (cs.set o v) (o + 1) r
theorem Blk.setCells {g : Nat} {t : TypeId} : ∀ (vs : List Value) (o : Nat) (cs : List Value) (w : World), Blk w g t cs → Blk (w.setCells g o vs) g t (setAll cs o vs)
  | [], _, _, _, h => h
  | v :: r, o, cs, w, h => Blk.setCells r (o + 1) (cs.set o v) (w.setCell ⟨g, o, none⟩ v) (h.set o v)
theorem Blk.setCellsFar {g k : Nat} {t : TypeId} {l : List Value} (hk : k ≠ g) : ∀ (vs : List Value) (o : Nat) (w : World), Blk w k t l → Blk (w.setCells g o vs) k t l
  | [], _, _, h => h
  | v :: r, o, w, h => Blk.setCellsFar hk r (o + 1) (w.setCell ⟨g, o, none⟩ v) (h.far (p := ⟨g, o, none⟩) hk v)
theorem below_setCells' {B g : Nat} (hg : B ≤ g) : ∀ (vs : List Value) (o : Nat) (w0 w : World), Below B w0 w → Below B w0 (w.setCells g o vs)
  | [], _, _, _, h => h
  | v :: r, o, w0, w, h => below_setCells' hg r (o + 1) w0 (w.setCell ⟨g, o, none⟩ v) (h.setCell (p := ⟨g, o, none⟩) hg v)

theorem Blk.range {w : World} {g : Nat} {t : TypeId} {all : List Value} (h : Blk w g t all) {o : Nat} {cs : List Value} (hp : ∀ j, j < cs.length → all[o + j]? = cs[j]?) : w.rangeAt g o cs := fun j v hv => by
  have hj := (List.getElem?_eq_some_iff.1 hv).1
  rw [h.cell (o + j), hp j hj]
  exact hv
theorem exec_load_part {P : Program} {w : World} {o : Oper} {a : Act} (ty : TypeId) (x : Operand) (ho : o.op = .load ty x) (g i : Nat) (hx : a.eval x = .pointer (some ⟨g, i, none⟩))
    (t : TypeId) (all cs : List Value) (hg : Blk w g t all) (hp : ∀ j, j < cs.length → all[i + j]? = cs[j]?) (d : TypeDesc) (hu : P.underlying ty = some d) (hd : d.isRow = true) (hi : (P.info? ty).map (·.size) = some cs.length) :
    (execOp a.eval o).run P w = .ok (.value (.agg cs.toArray)) w := by
  unfold execOp
  simp only [ho, hx, Instr.loadAt, Instr.sureAddr, Sem.run_bind, Sem.run_pure, Result.andThen_ok, run_loadVar_mid w g i ty cs d (hg.range hp) hu hd hi]
theorem exec_load_blk {P : Program} {w : World} {o : Oper} {a : Act} (ty : TypeId) (x : Operand) (ho : o.op = .load ty x) (g : Nat) (hx : a.eval x = .pointer (some ⟨g, 0, none⟩))
    (t : TypeId) (cs : List Value) (hg : Blk w g t cs) (d : TypeDesc) (hu : P.underlying ty = some d) (hd : d.isRow = true) (hi : (P.info? ty).map (·.size) = some cs.length) :
    (execOp a.eval o).run P w = .ok (.value (.agg cs.toArray)) w := exec_load_part ty x ho g 0 hx t cs cs hg (fun j _ => by rw [Nat.zero_add]) d hu hd hi
theorem wpList_load_part {P : Program} {w : World} {ops : Array Oper} {rest : List Oper} {o : Oper} {a : Act} {Q : Exit → Act → World → Prop} (hgd : o.guard = none) (ty : TypeId) (x : Operand) (ho : o.op = .load ty x)
    (g i : Nat) (hx : a.eval x = .pointer (some ⟨g, i, none⟩)) (t : TypeId) (all cs : List Value) (hg : Blk w g t all) (hp : ∀ j, j < cs.length → all[i + j]? = cs[j]?) (d : TypeDesc)
    (hu : P.underlying ty = some d) (hd : d.isRow = true) (hi : (P.info? ty).map (·.size) = some cs.length)
    (h : wpList P ops Q rest (a.put o.dst (.agg cs.toArray)) w) : wpList P ops Q (o :: rest) a w :=
  wpList_load_mid hgd ty x ho g i hx cs d (hg.range hp) hu hd hi h
theorem wpList_store_part {P : Program} {w : World} {ops : Array Oper} {rest : List Oper} {o : Oper} {a : Act} {Q : Exit → Act → World → Prop} (hgd : o.guard = none) (ty : TypeId) (x y : Operand) (ho : o.op = .store ty x y)
    (g i : Nat) (cs : List Value) (hx : a.eval x = .pointer (some ⟨g, i, none⟩)) (hy : a.eval y = .agg cs.toArray) (t : TypeId) (all : List Value) (hg : Blk w g t all) (hl : i + cs.length ≤ all.length)
    (hi : (P.info? ty).map (·.size) = some cs.length) (h1 : ∀ v ∈ cs, v.oneCell' = true)
    (h : ∀ w', Blk w' g t (setAll all i cs) → (∀ B, B ≤ g → Below B w w') → (∀ k T l, k ≠ g → Blk w k T l → Blk w' k T l) → wpList P ops Q rest (a.put o.dst undef) w') : wpList P ops Q (o :: rest) a w := by
  refine wpList_store_mid hgd ty x y ho g i cs.toArray hx hy (fun j hj => ⟨?_, hg.frozen _⟩) (by simpa using hi) (all_oneCell_toArray h1) (h _ (hg.setCells cs i all) (fun B hB => below_setCells' hB cs i w w (Below.refl _ _)) (fun k T l hk hb => hb.setCellsFar hk cs i w))
  rw [hg.cell]
  have : i + j < all.length := by simp at hj; omega
  rw [List.getElem?_eq_getElem this]
  rfl
/-- A guarded operation that is wanted. -/
theorem wpList_wanted {P : Program} {ops : Array Oper} {rest : List Oper} {o : Oper} {a : Act} {w : World} {Q : Exit → Act → World → Prop} (hw : Region.wanted o (yielded ops a.tmps) = true)
    (h : ∀ K : Act → World → Prop, (∀ a w, wpList P ops Q rest a w → K a w) → o.wp P a w K Q) : wpList P ops Q (o :: rest) a w :=
  wpList_step fun K hK => by rw [if_pos hw]; exact h K hK
theorem wpList_load_blk_g {P : Program} {w : World} {ops : Array Oper} {rest : List Oper} {o : Oper} {a : Act} {Q : Exit → Act → World → Prop} (ty : TypeId) (x : Operand) (ho : o.op = .load ty x)
    (hw : Region.wanted o (yielded ops a.tmps) = true) (g : Nat) (hx : a.eval x = .pointer (some ⟨g, 0, none⟩)) (t : TypeId) (cs : List Value) (d : TypeDesc) (hg : Blk w g t cs)
    (hu : P.underlying ty = some d) (hd : (match d with | .struct _ | .array _ _ => true | _ => false) = true) (hi : (P.info? ty).map (·.size) = some cs.length)
    (h : wpList P ops Q rest (a.put o.dst (.agg cs.toArray)) w) : wpList P ops Q (o :: rest) a w :=
  wpList_wanted hw fun _ hK => wp_load_row ty x ho g hx t cs.toArray (0, 0) d hg hu hd (by simpa using hi) (hK _ _ h)
theorem wpList_agg_g {P : Program} {w : World} {ops : Array Oper} {rest : List Oper} {o : Oper} {a : Act} {Q : Exit → Act → World → Prop} {op : BinOp} {t : TypeId} {x y : Operand} {xs ys : Array Value} {v : Value}
    (ho : o.op = .binOp op t x y t) (hw : Region.wanted o (yielded ops a.tmps) = true) (hm : P.eqGuardType P.depth t = false) (hx : a.eval x = .agg xs) (hy : a.eval y = .agg ys) (hrun : (binOp op t (.agg xs) (.agg ys)).run P w = .ok v w)
    (h : wpList P ops Q rest (a.put o.dst v) w) : wpList P ops Q (o :: rest) a w :=
  wpList_wanted hw fun _ hK => by
    unfold Oper.wp execOp
    simp only [ho, hx, hy, Sem.run_bind, run_eqGuard_agg w op t x y xs ys hm, Result.andThen_ok, hrun, Sem.run_pure]
    exact hK _ _ h
theorem wp_store_blk {P : Program} {w : World} {o : Oper} {a : Act} {K : Act → World → Prop} {Q : Exit → Act → World → Prop} (ty : TypeId) (x y : Operand) (ho : o.op = .store ty x y)
    (g : Nat) (cs : List Value) (hx : a.eval x = .pointer (some ⟨g, 0, none⟩)) (hy : a.eval y = .agg cs.toArray) (t : TypeId) (old : List Value) (hg : Blk w g t old)
    (hi : (P.info? ty).map (·.size) = some cs.length) (hold : old.length = cs.length) (h1 : ∀ v ∈ cs, v.oneCell' = true)
    (h : ∀ w', Blk w' g t cs → (∀ B, B ≤ g → Below B w w') → (∀ k T l, k ≠ g → Blk w k T l → Blk w' k T l) → K (a.put o.dst undef) w') : o.wp P a w K Q :=
  wp_store_row ty x y ho g cs.toArray hx hy t old.toArray hg (by simpa using hi) (by simpa using hold)
    (Array.all_eq_true_iff_forall_mem.2 (fun v hv => h1 v (by simpa using hv)))
    (h _ (hg.row cs) (fun B hB => below_setRow (Below.refl B w) hB _) (fun k T l hk hb => hb.rowFar hk _))
end Go.Wd

set_option linter.unusedSimpArgs false
set_option linter.unusedVariables false
set_option maxRecDepth 100000
namespace Go.Proofs.Ytdphfhenjndkkaa
open Go Go.RowKit Go.Sq Go.Wd Go.Arch

abbrev SlcE := Option Addr × Nat × Nat
structure RecV where
  kind : Int
  stream : Int
  epoch : Int
  view : Int
  from_ : Int
  len : Int
  es : SlcE
  ents : List Ent
  fs : SlcE
def RecV.s (x : RecV) : RecS := ⟨x.kind, x.stream, x.epoch, x.view, x.from_, x.len, x.ents⟩
def rcv (x : RecV) : List Value := [.int .i64 x.kind, .int .i64 x.stream, .int .i64 x.epoch, .int .i64 x.view, .int .i64 x.from_, .int .i64 x.len, .slice x.es.1 x.es.2.1 x.es.2.2, .slice x.fs.1 x.fs.2.1 x.fs.2.2]
/-- A slice of entries holds this log. -/
def LogAt (w : World) (B : Nat) (sl : SlcE) (l : List Ent) : Prop := sl.2.1 = l.length ∧ l.length ≤ sl.2.2 ∧ sl.2.2 ≤ 9223372036854775807 ∧ Ents w B sl.1 l
def RecAt (w : World) (b o : Nat) (x : RecV) : Prop :=
  w.cell? ⟨b, o, none⟩ = some (.int .i64 x.kind) ∧ w.cell? ⟨b, o + 1, none⟩ = some (.int .i64 x.stream) ∧ w.cell? ⟨b, o + 2, none⟩ = some (.int .i64 x.epoch) ∧ w.cell? ⟨b, o + 3, none⟩ = some (.int .i64 x.view) ∧
  w.cell? ⟨b, o + 4, none⟩ = some (.int .i64 x.from_) ∧ w.cell? ⟨b, o + 5, none⟩ = some (.int .i64 x.len) ∧ w.cell? ⟨b, o + 6, none⟩ = some (.slice x.es.1 x.es.2.1 x.es.2.2) ∧ w.cell? ⟨b, o + 7, none⟩ = some (.slice x.fs.1 x.fs.2.1 x.fs.2.2)
def Recs (w : World) (B : Nat) (A : Option Addr) (l : List RecV) : Prop :=
  (∀ x ∈ l, LogAt w B x.es x.ents) ∧ (0 < l.length → ∃ b off, A = some ⟨b, off, none⟩ ∧ b < B ∧ ∀ i x, l[i]? = some x → RecAt w b (off + i * 8) x)

section
variable {w w' : World} {B B' : Nat} {A : Option Addr} {l : List RecV} {sl : SlcE} {es : List Ent}
theorem LogAt.below (h : LogAt w B sl es) (hb : Below B w w') : LogAt w' B sl es := ⟨h.1, h.2.1, h.2.2.1, h.2.2.2.below hb⟩
theorem LogAt.more (h : LogAt w B sl es) (hB : B ≤ B') : LogAt w B' sl es := ⟨h.1, h.2.1, h.2.2.1, h.2.2.2.more hB⟩
theorem LogAt.keep (h : LogAt w w.heap.size sl es) (hb : Below w.heap.size w w') : LogAt w' w'.heap.size sl es := (h.below hb).more hb.size
theorem LogAt.nil : LogAt w B (none, 0, 0) [] := ⟨rfl, Nat.le_refl _, by simp, Ents.nil⟩
theorem RecAt.below {b o : Nat} {x : RecV} (h : RecAt w b o x) (hb : Below B w w') (hB : b < B) : RecAt w' b o x := by
  obtain ⟨h0, h1, h2, h3, h4, h5, h6, h7⟩ := h
  have k : ∀ i v, w.cell? ⟨b, i, none⟩ = some v → w'.cell? ⟨b, i, none⟩ = some v := fun i v h => (hb.cell (p := ⟨b, _, none⟩) hB).trans h
  exact ⟨k _ _ h0, k _ _ h1, k _ _ h2, k _ _ h3, k _ _ h4, k _ _ h5, k _ _ h6, k _ _ h7⟩
theorem Recs.below (h : Recs w B A l) (hb : Below B w w') : Recs w' B A l := ⟨fun x hx => (h.1 x hx).below hb, fun hl => by
  obtain ⟨b, off, ha, hB, hc⟩ := h.2 hl
  exact ⟨b, off, ha, hB, fun i e he => (hc i e he).below hb hB⟩⟩
theorem Recs.more (h : Recs w B A l) (hB : B ≤ B') : Recs w B' A l := ⟨fun x hx => (h.1 x hx).more hB, fun hl => by
  obtain ⟨b, off, ha, hb, hc⟩ := h.2 hl
  exact ⟨b, off, ha, by omega, hc⟩⟩
theorem Recs.at_ (h : Recs w B A l) {k : Nat} (hk : k < l.length) : ∃ b off x, A = some ⟨b, off, none⟩ ∧ Hid (l[k]? = some x) ∧ (∀ w', Below B w w' → RecAt w' b (off + k * 8) x) ∧ Hid (LogAt w B x.es x.ents) := by
  obtain ⟨b, off, ha, hb, hc⟩ := h.2 (by omega)
  exact ⟨b, off, _, ha, Lib.hid (List.getElem?_eq_getElem hk), fun w' hb' => (hc k _ (List.getElem?_eq_getElem hk)).below hb' hb, Lib.hid (h.1 _ (List.getElem_mem hk))⟩
end
/-- A register's cells. -/
def rgv (r : RegS) (sl : SlcE) : List Value := [.int .i64 r.prom, .int .i64 r.view, .slice sl.1 sl.2.1 sl.2.2, .int .i64 r.com]
end Go.Proofs.Ytdphfhenjndkkaa

set_option linter.unusedSimpArgs false
set_option linter.unusedVariables false
set_option maxRecDepth 100000
namespace Go.Proofs.Ytdphfhenjndkkaa
open Go Go.RowKit Go.Sq Go.Wd

theorem ent_info : (Try.prog.info? 64).map (fun i => (i.zero, i.size, i.bytes)) = some (some (.agg #[.int .i64 0, .int .i64 0, .int .i64 0, .int .i64 0, .int .i64 0, .int .i64 0]), 6, 48) := by kernel_rfl

def flat (l : List Ent) : List Value := l.flatMap vals
theorem flat_len (l : List Ent) : (flat l).length = l.length * 6 := by
  induction l with
  | nil => rfl
  | cons a l ih =>
    have e : flat (a :: l) = vals a ++ flat l := rfl
    rw [e, List.length_append, ih]
    simp [vals]
    omega
theorem flat_snoc (l m : List Ent) : flat (l ++ m) = flat l ++ flat m := by simp [flat]
theorem flat_one (e : Ent) : flat [e] = vals e := by simp [flat]
theorem flat_get : ∀ (l : List Ent) (i : Nat) (e : Ent) (k : Nat), l[i]? = some e → k < 6 → (flat l)[i * 6 + k]? = (vals e)[k]?
  | [], i, e, k, h, _ => by simp at h
  | a :: l, 0, e, k, h, hk => by
    simp at h
    subst h
    have e2 : flat (a :: l) = vals a ++ flat l := rfl
    rw [e2, Nat.zero_mul, Nat.zero_add, List.getElem?_append_left (by simpa [vals] using hk)]
  | a :: l, i + 1, e, k, h, hk => by
    have ih := flat_get l i e k (by simpa using h) hk
    have e2 : flat (a :: l) = vals a ++ flat l := rfl
    rw [e2, List.getElem?_append_right (by simp [vals]; omega), ← ih]
    congr 1
    simp [vals]
    omega
theorem flat_one_cell (l : List Ent) : ∀ u ∈ flat l, u.oneCell' = true := by
  intro u hu
  simp only [flat, List.mem_flatMap] at hu
  obtain ⟨e, _, hu⟩ := hu
  simp only [vals, List.mem_cons, List.not_mem_nil, or_false] at hu
  rcases hu with rfl | rfl | rfl | rfl | rfl | rfl <;> rfl

theorem add_off (b o j : Nat) : (⟨b, o, none⟩ : Addr).add j = ⟨b, o + j, none⟩ := by
  unfold Addr.add
  by_cases h : j = 0 <;> simp [h]

/-- Where the cells of such a slice lie. -/
theorem Ents.cells {w : World} {B : Nat} {A : Option Addr} {l : List Ent} (h : Ents w B A l) (h0 : 0 < l.length) : ∃ ad, A = some ad ∧ ∀ j u, (flat l)[j]? = some u → w.cell? (ad.add j) = some u := by
  obtain ⟨b, off, ha, hb, hc⟩ := h h0
  refine ⟨_, ha, fun j u hu => ?_⟩
  have hj : j < l.length * 6 := by
    have := (List.getElem?_eq_some_iff.1 hu).1
    rw [flat_len] at this
    exact this
  obtain ⟨i, k, hk, rfl⟩ : ∃ i k, k < 6 ∧ j = i * 6 + k := ⟨j / 6, j % 6, Nat.mod_lt _ (by omega), by omega⟩
  obtain ⟨e, he⟩ : ∃ e, l[i]? = some e := ⟨_, List.getElem?_eq_getElem (by omega)⟩
  rw [flat_get l i e k he hk] at hu
  rw [add_off]
  obtain ⟨c0, c1, c2, c3, c4, c5⟩ := hc i e he
  obtain rfl | rfl | rfl | rfl | rfl | rfl : k = 0 ∨ k = 1 ∨ k = 2 ∨ k = 3 ∨ k = 4 ∨ k = 5 := by omega
  all_goals
    simp [vals] at hu
    subst hu
    first
    | exact c0
    | exact c1
    | exact c2
    | exact c3
    | exact c4
    | exact c5

theorem ents_of {w : World} {B g c : Nat} {L : List Ent} {n : Nat} (hn : n = L.length) (h : w.ownsRow B 64 6 (.slice (some ⟨g, 0, none⟩) n c) n (flat L)) : Ents w w.heap.size (some ⟨g, 0, none⟩) L := by
  subst hn
  intro hl
  have hg : g < w.heap.size := (h.lt g rfl).2
  refine ⟨g, 0, rfl, hg, fun i e hi => ?_⟩
  have hlt := (List.getElem?_eq_some_iff.1 hi).1
  have key : ∀ k, k < 6 → w.cell? ⟨g, i * 6 + k, none⟩ = (vals e)[k]? := fun k hk => by
    rw [h.cellAt (i * 6 + k) (by omega)]
    exact flat_get L i e k hi hk
  rw [Nat.zero_add]
  exact ⟨key 0 (by omega), key 1 (by omega), key 2 (by omega), key 3 (by omega), key 4 (by omega), key 5 (by omega)⟩

/-- v is a row of these entries, in memory from B on. -/
abbrev Row (w : World) (B : Nat) (v : Value) (l : List Ent) : Prop := w.ownsRow B 64 6 v l.length (flat l)

theorem Row.empty (w : World) : Row (w.alloc (.cells #[] 64)) w.heap.size (.slice (some ⟨w.heap.size, 0, none⟩) 0 0) [] := by
  have h := World.ownsRow_made (base := w.heap.size) (e := 64) (size := 6) w #[] 0 (Nat.le_refl _) (by simp [maxLen]) (by simp)
  exact h
theorem Row.keep {w w' : World} {B : Nat} {v : Value} {l : List Ent} (h : Row w B v l) (hb : Below w.heap.size w w') : Row w' B v l := h.kept (only_of_below hb none) (by
  cases hv : v.ownBlock with
  | none => exact .inl rfl
  | some g => exact .inr (fun e => by cases e))
theorem Row.form {w : World} {B : Nat} {v : Value} {l : List Ent} (h : Row w B v l) : ∃ A c, v = .slice A l.length c ∧ l.length ≤ c ∧ c ≤ 9223372036854775807 ∧ Ents w w.heap.size A l := by
  rcases id h.2 with ⟨rfl, hl⟩ | ⟨g, cap, cur, rfl, h1, h2, h3, h4, _⟩
  · have he : l = [] := List.eq_nil_of_length_eq_zero hl
    subst he
    exact ⟨none, 0, rfl, Nat.le_refl _, by omega, Ents.nil⟩
  · exact ⟨_, cap, rfl, h3, by simp only [maxLen] at h4; omega, ents_of rfl h⟩
/-- Entries appended, out of a slice that may be nil. -/
theorem Row.app {W : World} {B : Nat} {v : Value} {l m : List Ent} (h : Row W B v l) (A : Option Addr) (c : Nat) (ha : Ents W W.heap.size A m) (hl : l.length + m.length ≤ 2000) (hB : B ≤ W.heap.size) :
    ∃ v' w', (Builtin.append_ #[35, 35] 35 #[v, .slice A m.length c]).run Try.prog W = .ok v' w' ∧ Row w' B v' (l ++ m) ∧ W.grownBy w' v.ownBlock ∧ (v'.ownBlock = v.ownBlock ∨ v'.ownBlock = some W.heap.size) := by
  obtain ⟨v1, w1, h1, h2, h3, h4⟩ := append_all (P := Try.prog) 35 Try.underlying35 ent_info rfl (by omega) h A m.length c (flat m) (flat_len m) ha.cells (flat_one_cell m) (by simp only [maxLen]; omega) (by omega) hB
  refine ⟨v1, w1, h1, ?_, h3, h4⟩
  unfold Row
  rw [List.length_append, flat_snoc]
  exact h2
/-- The copy of a list. -/
theorem copy_run (l : List Ent) (A : Option Addr) (c : Nat) (W : World) (ha : Ents W W.heap.size A l) (hl : l.length ≤ 2000) :
    ∃ v' w', (Builtin.append_ #[35, 35] 35 #[.slice (some ⟨W.heap.size, 0, none⟩) 0 0, .slice A l.length c]).run Try.prog (W.alloc (.cells #[] 64)) = .ok v' w' ∧ Row w' W.heap.size v' l ∧ Below W.heap.size W w' := by
  have h0 : Below W.heap.size W (W.alloc (.cells #[] 64)) := (Below.refl _ _).alloc (Nat.le_refl _) _
  obtain ⟨v1, w1, h1, h2, h3, _⟩ := Row.app (Row.empty W) A c ((ha.below h0).more h0.size) (by simpa using hl) (by simp)
  exact ⟨v1, w1, h1, h2, below_own h0 h3 (Row.empty W) h0.size⟩
/-- Where the cells of an entry lie, in a row. -/
theorem Row.at_ {w : World} {B : Nat} {v : Value} {l : List Ent} (h : Row w B v l) {j : Nat} {e : Ent} (he : l[j]? = some e) : ∃ g c, v = .slice (some ⟨g, 0, none⟩) l.length c ∧ B ≤ g ∧ g < w.heap.size ∧ EntAt w g (j * 6) e ∧ ∀ k, w.frozen? ⟨g, k, none⟩ = false := by
  have hj := (List.getElem?_eq_some_iff.1 he).1
  obtain ⟨g, c, rfl, hB, hg⟩ := World.ownsRow.form h (by omega)
  have key : ∀ k, k < 6 → w.cell? ⟨g, j * 6 + k, none⟩ = (vals e)[k]? := fun k hk => by
    rw [h.cellAt (j * 6 + k) (by omega)]
    exact flat_get l j e k he hk
  exact ⟨g, c, rfl, hB, hg, ⟨key 0 (by omega), key 1 (by omega), key 2 (by omega), key 3 (by omega), key 4 (by omega), key 5 (by omega)⟩, fun k => h.frozenAt k⟩
theorem flat_set : ∀ (l : List Ent) (j : Nat) (e : Ent) (x : Int), l[j]? = some e → (flat l).set (j * 6) (.int .i64 x) = flat (l.set j (x, e.2))
  | [], j, e, x, h => by simp at h
  | a :: l, 0, e, x, h => by
    simp at h
    subst h
    rfl
  | a :: l, j + 1, e, x, h => by
    have ih := flat_set l j e x (by simpa using h)
    have e1 : flat (a :: l) = vals a ++ flat l := rfl
    have e2 : flat ((a :: l).set (j + 1) (x, e.2)) = vals a ++ flat (l.set j (x, e.2)) := rfl
    rw [e1, e2, ← ih, List.set_append_right _ _ (by simp [vals]; omega)]
    congr 2
    simp [vals]
    omega
/-- The epoch of one of them overwritten. -/
theorem Row.epoch {w : World} {B g c n : Nat} {l : List Ent} (h : Row w B (.slice (some ⟨g, 0, none⟩) n c) l) {j : Nat} {e : Ent} (he : l[j]? = some e) (x : Int) :
    Row (w.setCell ⟨g, j * 6, none⟩ (.int .i64 x)) B (.slice (some ⟨g, 0, none⟩) n c) (l.set j (x, e.2)) := by
  have hn : n = l.length := by
    rcases h.2 with ⟨h, _⟩ | ⟨_, _, _, h, _⟩
    · cases h
    · cases h; rfl
  subst hn
  have h1 := (World.ownsRow.stored h (j * 6) (.int .i64 x)).1
  unfold Row
  rw [List.length_set, ← flat_set l j e x he]
  exact h1
end Go.Proofs.Ytdphfhenjndkkaa

set_option linter.unusedSimpArgs false
set_option linter.unusedVariables false
set_option maxRecDepth 100000
namespace Go.Proofs.Ytdphfhenjndkkaa
open Go Go.RowKit Go.Sq Go.Wd Go.Arch

theorem Row.where_ {w : World} {B : Nat} {A : Option Addr} {n c : Nat} {l : List Ent} (h : Row w B (.slice A n c) l) : A = none ∨ ∃ g, A = some ⟨g, 0, none⟩ ∧ B ≤ g := by
  rcases h.2 with ⟨h', _⟩ | ⟨g, cap, cur, h1, h2, _⟩
  · cases h'; exact .inl rfl
  · cases h1; exact .inr ⟨g, rfl, h2⟩

theorem app_full (l m : List Ent) (A B : Option Addr) (d : Nat) (w : World) (ha : Ents w w.heap.size A l) (hb : Ents w w.heap.size B m) (hl : l.length + m.length ≤ 2000) :
    ∃ (sl : SlcE) (w' : World), (Builtin.append_ #[35, 35] 35 #[.slice A l.length l.length, .slice B m.length d]).run Try.prog w = .ok (.slice sl.1 sl.2.1 sl.2.2) w' ∧ LogAt w' w'.heap.size sl (l ++ m) ∧ Below w.heap.size w w' ∧ (sl.1 = A ∨ ∃ g, sl.1 = some ⟨g, 0, none⟩ ∧ w.heap.size ≤ g) := by
  obtain ⟨i, hi, hz, h2, h3⟩ := info_parts ent_info
  rcases Nat.eq_zero_or_pos m.length with h0 | h0
  · obtain rfl : m = [] := List.eq_nil_of_length_eq_zero h0
    refine ⟨(A, l.length, l.length), w, ?_, ?_, Below.refl _ _, .inl rfl⟩
    · refine run_append_nothing (P := Try.prog) w _ _ _ _ i Try.underlying35 hi A l.length l.length (Nat.le_refl _) _ ?_
      cases B with
      | none => exact Src.ofNil w Try.underlying35 d
      | some a => exact Src.ofSlice w Try.underlying35 a 0 d [] (by simp) (by simp) (by simp)
    · rw [List.append_nil]
      exact ⟨rfl, Nat.le_refl _, (by show l.length ≤ 9223372036854775807; omega), ha⟩
  · obtain ⟨b, hB, hb2⟩ := hb.cells h0
    subst hB
    rcases Nat.eq_zero_or_pos l.length with l0 | l0
    · obtain rfl : l = [] := List.eq_nil_of_length_eq_zero l0
      cases A with
      | none =>
        obtain ⟨v1, w1, h1, h2, h3, _⟩ := append_all (P := Try.prog) 35 Try.underlying35 ent_info rfl (by omega) (World.ownsRow_nil w w.heap.size 64 6) (some b) m.length d (flat m) (flat_len m) hb.cells (flat_one_cell m) (by simp only [maxLen]; omega) (by omega) (Nat.le_refl _)
        have hR : Row w1 w.heap.size v1 m := by
          unfold Row
          simpa using h2
        obtain ⟨A', c', rfl, q1, q2, q3⟩ := hR.form
        exact ⟨(A', m.length, c'), w1, h1, ⟨rfl, q1, q2, q3⟩, below_own (Below.refl _ _) h3 (World.ownsRow_nil w w.heap.size 64 6) (Nat.le_refl _), hR.where_⟩
      | some a =>
        obtain ⟨v1, w1, h1, h2', h3'⟩ := run_append_arg_grows (P := Try.prog) w 35 35 64 i _ 6 48 Try.underlying35 hi hz h2 h3 rfl (by omega) a 0 0 [] rfl (by simp) b m.length d (flat m) (flat_len m) hb2 (by omega) (by simp only [maxLen]; omega) (by omega)
        have hR : Row w1 w.heap.size v1 m := by
          unfold Row
          simpa using h2'
        obtain ⟨A', c', rfl, q1, q2, q3⟩ := hR.form
        exact ⟨(A', m.length, c'), w1, h1, ⟨rfl, q1, q2, q3⟩, ⟨h3'.os, h3'.tape, h3'.output, h3'.size, fun k hk => h3'.block k hk (by simp)⟩, hR.where_.elim (fun e => absurd h0 (by subst e; have := q3; intro hh; obtain ⟨_, _, e, _⟩ := this hh; cases e)) .inr⟩
    · obtain ⟨a, hA, ha2⟩ := ha.cells l0
      subst hA
      obtain ⟨v1, w1, h1, h2', h3'⟩ := run_append_arg_grows (P := Try.prog) w 35 35 64 i _ 6 48 Try.underlying35 hi hz h2 h3 rfl (by omega) a l.length l.length (flat l) (flat_len l) ha2 b m.length d (flat m) (flat_len m) hb2 (by omega) (by simp only [maxLen]; omega) (by omega)
      have hR : Row w1 w.heap.size v1 (l ++ m) := by
        unfold Row
        rw [List.length_append, flat_snoc]
        exact h2'
      obtain ⟨A', c', rfl, q1, q2, q3⟩ := hR.form
      exact ⟨(A', (l ++ m).length, c'), w1, by rw [h1], ⟨rfl, q1, q2, q3⟩, ⟨h3'.os, h3'.tape, h3'.output, h3'.size, fun k hk => h3'.block k hk (by simp)⟩, hR.where_.elim (fun e => absurd h0 (by subst e; have := q3; intro hh; obtain ⟨_, _, e, _⟩ := this (by simp; omega); cases e)) .inr⟩
end Go.Proofs.Ytdphfhenjndkkaa

set_option linter.unusedSimpArgs false
set_option linter.unusedVariables false
set_option maxRecDepth 100000
namespace Go.Proofs.Ytdphfhenjndkkaa
open Go.RowKit Go.Sq Go.Arch

set_option maxHeartbeats 1000000 in
theorem fields_any (b : Nat) (w : World) :
    Calls Try.prog 96 #[.pointer (some ⟨b, 0, none⟩)] w fun e w' => e = .returned (.slice (some ⟨w.heap.size, 0, none⟩) 5 5) ∧
      w' = (w.alloc (.cells #[.pointer (some ⟨b, 0, none⟩), .int .i64 1, .int .i64 2147483647, .pointer (some ⟨b, 1, none⟩), .int .i64 0, .int .i64 3,
        .pointer (some ⟨b, 2, none⟩), .int .i64 (-1), .int .i64 2147483647, .pointer (some ⟨b, 3, none⟩), .int .i64 1, .int .i64 4,
        .pointer (some ⟨b, 4, none⟩), .int .i64 (-1048576), .int .i64 1048576] 152)).drew := by
  go_enter Try.func96, Try.ntmps96
  go_wp2_with fail
  refine wp_region_q 20 2 (fun _ => True) (by kernel_rfl) (by kernel_rfl) (by kernel_rfl) (by kernel_rfl) (by kernel_rfl) trivial rfl ?_
  intro K T hK hT
  simp only [List.map, List.take, List.drop] at hK ⊢
  go_wp2_with (apply SeqQ.pure; rfl; (intro w hw; go_simp; with_reducible rfl); simp only [Act.put, List.setIfInBounds_toArray, List.set_cons_zero, List.set_cons_succ])
  refine SeqQ.nil (hK _ ?_)
  clear hK hT
  refine wpListH.cons rfl (fun K' hK' => ?_)
  go_simp
  refine hK' _ _ trivial (fun _ => ?_)
  clear hK'
  refine wpListH.cons rfl (fun K' hK' => ?_)
  go_simp
  refine hK' _ _ trivial (fun _ => ?_)
  clear hK'
  refine wpListH.nil ?_
  go_wp2_with fail
  go_ret
  exact ⟨rfl, rfl⟩

set_option maxHeartbeats 4000000 in
theorem check_any (x0 x1 x2 x3 x4 : Int) (w : World) :
    Calls Try.prog 87 #[.agg #[.int .i64 x0, .int .i64 x1, .int .i64 x2, .int .i64 x3, .int .i64 x4]] w fun e w' =>
      e = .returned (.int .i64 (errOf (ordOk ⟨x0, x1, x2, x3, x4⟩))) ∧ Below w.heap.size w w' := by
  have ho : ordOk ⟨x0, x1, x2, x3, x4⟩ = decide (1 ≤ x0 ∧ x0 ≤ 2147483647 ∧ 0 ≤ x1 ∧ x1 ≤ 3 ∧ -1 ≤ x2 ∧ x2 ≤ 2147483647 ∧ 1 ≤ x3 ∧ x3 ≤ 4 ∧ -1048576 ≤ x4 ∧ x4 ≤ 1048576) := rfl
  generalize ordOk ⟨x0, x1, x2, x3, x4⟩ = m at ho ⊢
  have HO := Lib.hid ho
  clear ho
  go_enter Try.func87, Try.ntmps87
  go_wp2_with (go_at_call 96; refine (fields_any _ _).mono ?_; rintro e w' ⟨rfl, rfl⟩)
  go_loopw [7] (fun i wr => ∃ k : Nat, k ≤ 5 ∧ i = .int .i64 k ∧ ((0 < k → 1 ≤ x0 ∧ x0 ≤ 2147483647) ∧ (1 < k → 0 ≤ x1 ∧ x1 ≤ 3) ∧ (2 < k → -1 ≤ x2 ∧ x2 ≤ 2147483647) ∧ (3 < k → 1 ≤ x3 ∧ x3 ≤ 4) ∧ (4 < k → -1048576 ≤ x4 ∧ x4 ≤ 1048576)) ∧
      Keeps (w.heap.size + 2) [(⟨w.heap.size, 0, none⟩, .int .i64 x0), (⟨w.heap.size, 1, none⟩, .int .i64 x1), (⟨w.heap.size, 2, none⟩, .int .i64 x2), (⟨w.heap.size, 3, none⟩, .int .i64 x3), (⟨w.heap.size, 4, none⟩, .int .i64 x4), (⟨w.heap.size + 1, 0, none⟩, .pointer (some ⟨w.heap.size, 0, none⟩)), (⟨w.heap.size + 1, 1, none⟩, .int .i64 1), (⟨w.heap.size + 1, 2, none⟩, .int .i64 2147483647), (⟨w.heap.size + 1, 3, none⟩, .pointer (some ⟨w.heap.size, 1, none⟩)), (⟨w.heap.size + 1, 4, none⟩, .int .i64 0), (⟨w.heap.size + 1, 5, none⟩, .int .i64 3), (⟨w.heap.size + 1, 6, none⟩, .pointer (some ⟨w.heap.size, 2, none⟩)), (⟨w.heap.size + 1, 7, none⟩, .int .i64 (-1)), (⟨w.heap.size + 1, 8, none⟩, .int .i64 2147483647), (⟨w.heap.size + 1, 9, none⟩, .pointer (some ⟨w.heap.size, 3, none⟩)), (⟨w.heap.size + 1, 10, none⟩, .int .i64 1), (⟨w.heap.size + 1, 11, none⟩, .int .i64 4), (⟨w.heap.size + 1, 12, none⟩, .pointer (some ⟨w.heap.size, 4, none⟩)), (⟨w.heap.size + 1, 13, none⟩, .int .i64 (-1048576)), (⟨w.heap.size + 1, 14, none⟩, .int .i64 1048576)] w wr) (fun i _ => 5 - (intOf i).toNat)
  case atStart =>
    refine ⟨0, by omega, rfl, by omega, ?_, by simp, by simp [List.forall_mem_cons], by simp [cellsAre_cons, cellsAre_nil, go_sem, World.cell?_alloc_past]⟩
    (repeat (first | with_reducible apply Below.drew | with_reducible refine Below.setCell ?_ (by first | exact Nat.le_refl _ | (simp; done) | (simp; omega) | omega) _ | with_reducible refine Below.alloc ?_ (by first | exact Nat.le_refl _ | (simp; done) | (simp; omega) | omega) _ | with_reducible exact Below.refl _ _ | with_reducible assumption))
  case round =>
    obtain ⟨k, hk5, rfl, hr, hk⟩ := hrel
    obtain rfl | rfl | rfl | rfl | rfl | rfl : k = 0 ∨ k = 1 ∨ k = 2 ∨ k = 3 ∨ k = 4 ∨ k = 5 := by omega
    · have hk' := hk
      obtain ⟨h1, h2, h3, h4⟩ := hk'
      simp only [cellsAre_cons, cellsAre_nil, and_true] at h4
      go_wp2_with fail
      refine abs_code (fun w' => Keeps (wr.heap.size + 1) ([(⟨wr.heap.size, 0, none⟩, .pointer (some ⟨w.heap.size, 0, none⟩)), (⟨wr.heap.size, 1, none⟩, .int .i64 1), (⟨wr.heap.size, 2, none⟩, .int .i64 2147483647)] ++ [(⟨w.heap.size, 0, none⟩, .int .i64 x0), (⟨w.heap.size, 1, none⟩, .int .i64 x1), (⟨w.heap.size, 2, none⟩, .int .i64 x2), (⟨w.heap.size, 3, none⟩, .int .i64 x3), (⟨w.heap.size, 4, none⟩, .int .i64 x4), (⟨w.heap.size + 1, 0, none⟩, .pointer (some ⟨w.heap.size, 0, none⟩)), (⟨w.heap.size + 1, 1, none⟩, .int .i64 1), (⟨w.heap.size + 1, 2, none⟩, .int .i64 2147483647), (⟨w.heap.size + 1, 3, none⟩, .pointer (some ⟨w.heap.size, 1, none⟩)), (⟨w.heap.size + 1, 4, none⟩, .int .i64 0), (⟨w.heap.size + 1, 5, none⟩, .int .i64 3), (⟨w.heap.size + 1, 6, none⟩, .pointer (some ⟨w.heap.size, 2, none⟩)), (⟨w.heap.size + 1, 7, none⟩, .int .i64 (-1)), (⟨w.heap.size + 1, 8, none⟩, .int .i64 2147483647), (⟨w.heap.size + 1, 9, none⟩, .pointer (some ⟨w.heap.size, 3, none⟩)), (⟨w.heap.size + 1, 10, none⟩, .int .i64 1), (⟨w.heap.size + 1, 11, none⟩, .int .i64 4), (⟨w.heap.size + 1, 12, none⟩, .pointer (some ⟨w.heap.size, 4, none⟩)), (⟨w.heap.size + 1, 13, none⟩, .int .i64 (-1048576)), (⟨w.heap.size + 1, 14, none⟩, .int .i64 1048576)]) w w') (Keeps.more (B := w.heap.size + 2) (L := [(⟨w.heap.size, 0, none⟩, .int .i64 x0), (⟨w.heap.size, 1, none⟩, .int .i64 x1), (⟨w.heap.size, 2, none⟩, .int .i64 x2), (⟨w.heap.size, 3, none⟩, .int .i64 x3), (⟨w.heap.size, 4, none⟩, .int .i64 x4), (⟨w.heap.size + 1, 0, none⟩, .pointer (some ⟨w.heap.size, 0, none⟩)), (⟨w.heap.size + 1, 1, none⟩, .int .i64 1), (⟨w.heap.size + 1, 2, none⟩, .int .i64 2147483647), (⟨w.heap.size + 1, 3, none⟩, .pointer (some ⟨w.heap.size, 1, none⟩)), (⟨w.heap.size + 1, 4, none⟩, .int .i64 0), (⟨w.heap.size + 1, 5, none⟩, .int .i64 3), (⟨w.heap.size + 1, 6, none⟩, .pointer (some ⟨w.heap.size, 2, none⟩)), (⟨w.heap.size + 1, 7, none⟩, .int .i64 (-1)), (⟨w.heap.size + 1, 8, none⟩, .int .i64 2147483647), (⟨w.heap.size + 1, 9, none⟩, .pointer (some ⟨w.heap.size, 3, none⟩)), (⟨w.heap.size + 1, 10, none⟩, .int .i64 1), (⟨w.heap.size + 1, 11, none⟩, .int .i64 4), (⟨w.heap.size + 1, 12, none⟩, .pointer (some ⟨w.heap.size, 4, none⟩)), (⟨w.heap.size + 1, 13, none⟩, .int .i64 (-1048576)), (⟨w.heap.size + 1, 14, none⟩, .int .i64 1048576)]) (by repeat (first | with_reducible assumption | with_reducible apply Keeps.drew | with_reducible apply Keeps.alloc)) (by omega) (by simp) (by simp [List.forall_mem_cons]) (by simp [cellsAre_cons, cellsAre_nil, go_sem])) ?_
      intro w2 hk2
      clear hk h1 h3 h4
      generalize wr.heap.size = b at *
      simp only [List.cons_append, List.nil_append] at hk2
      have hB := h2
      clear h2
      obtain ⟨h1, h2, h3, h4⟩ := id hk2
      simp only [cellsAre_cons, cellsAre_nil, and_true] at h4
      refine wp_region_all (fun w' => Keeps (b + 1) [(⟨b, 0, none⟩, .pointer (some ⟨w.heap.size, 0, none⟩)), (⟨b, 1, none⟩, .int .i64 1), (⟨b, 2, none⟩, .int .i64 2147483647), (⟨w.heap.size, 0, none⟩, .int .i64 x0), (⟨w.heap.size, 1, none⟩, .int .i64 x1), (⟨w.heap.size, 2, none⟩, .int .i64 x2), (⟨w.heap.size, 3, none⟩, .int .i64 x3), (⟨w.heap.size, 4, none⟩, .int .i64 x4), (⟨w.heap.size + 1, 0, none⟩, .pointer (some ⟨w.heap.size, 0, none⟩)), (⟨w.heap.size + 1, 1, none⟩, .int .i64 1), (⟨w.heap.size + 1, 2, none⟩, .int .i64 2147483647), (⟨w.heap.size + 1, 3, none⟩, .pointer (some ⟨w.heap.size, 1, none⟩)), (⟨w.heap.size + 1, 4, none⟩, .int .i64 0), (⟨w.heap.size + 1, 5, none⟩, .int .i64 3), (⟨w.heap.size + 1, 6, none⟩, .pointer (some ⟨w.heap.size, 2, none⟩)), (⟨w.heap.size + 1, 7, none⟩, .int .i64 (-1)), (⟨w.heap.size + 1, 8, none⟩, .int .i64 2147483647), (⟨w.heap.size + 1, 9, none⟩, .pointer (some ⟨w.heap.size, 3, none⟩)), (⟨w.heap.size + 1, 10, none⟩, .int .i64 1), (⟨w.heap.size + 1, 11, none⟩, .int .i64 4), (⟨w.heap.size + 1, 12, none⟩, .pointer (some ⟨w.heap.size, 4, none⟩)), (⟨w.heap.size + 1, 13, none⟩, .int .i64 (-1048576)), (⟨w.heap.size + 1, 14, none⟩, .int .i64 1048576)] w w') (by kernel_rfl) (by kernel_rfl) (by with_reducible apply Keeps.drew; with_reducible assumption) rfl ?_
      intro K T hK hT hT'
      simp only [List.map] at hK ⊢
      go_wp2_with (first
        | (apply SeqD.skip; rfl; simp only [Act.put, List.setIfInBounds_toArray, List.set_cons_zero, List.set_cons_succ])
        | (apply SeqD.call; rfl; rfl; (intro w hw; obtain ⟨h1, h2, h3, h4⟩ := hT _ hw; simp only [cellsAre_cons, cellsAre_nil, and_true] at h4; go_simp; exact ⟨rfl, rfl⟩); (intro w hw; obtain ⟨h1, h2, h3, h4⟩ := hT _ hw; simp only [cellsAre_cons, cellsAre_nil, and_true] at h4; (first | fail)); simp only [Act.put, List.setIfInBounds_toArray, List.set_cons_zero, List.set_cons_succ])
        | (apply SeqD.pure; rfl; (intro w hw; obtain ⟨h1, h2, h3, h4⟩ := hT _ hw; simp only [cellsAre_cons, cellsAre_nil, and_true] at h4; go_simp; with_reducible rfl); simp only [Act.put, List.setIfInBounds_toArray, List.set_cons_zero, List.set_cons_succ])
        | (apply SeqD.split; rfl; rfl; all_goals (intro hc; simp only [hc]; try simp only [beq_iff_eq, decide_eq_true_eq, beq_eq_false_iff_ne, decide_eq_false_iff_not, bne_iff_ne, ne_eq, Bool.not_eq_true', Bool.not_eq_false', Int.not_le, Int.not_lt, bne_eq_false_iff_eq] at hc)))
      all_goals (apply SeqD.nil; refine hK _ ?_; clear h1 h2 h3 h4; intro w hw; obtain ⟨h1, h2, h3, h4⟩ := id hw; simp only [cellsAre_cons, cellsAre_nil, and_true] at h4; clear hT hT' hK)
      all_goals go_wp2
      all_goals first
        | (go_ret; refine ⟨ret_int ?_, h1⟩; rw [errOf, if_neg]; rw [HO.out, decide_eq_true_eq]; omega)
        | (go_roundw; (case rel => exact ⟨1, by omega, by go_num, by omega, hw.sub (by omega) (by simp [List.forall_mem_cons])⟩); (case measure => simp [intOf]))
    · have hk' := hk
      obtain ⟨h1, h2, h3, h4⟩ := hk'
      simp only [cellsAre_cons, cellsAre_nil, and_true] at h4
      go_wp2_with fail
      refine abs_code (fun w' => Keeps (wr.heap.size + 1) ([(⟨wr.heap.size, 0, none⟩, .pointer (some ⟨w.heap.size, 1, none⟩)), (⟨wr.heap.size, 1, none⟩, .int .i64 0), (⟨wr.heap.size, 2, none⟩, .int .i64 3)] ++ [(⟨w.heap.size, 0, none⟩, .int .i64 x0), (⟨w.heap.size, 1, none⟩, .int .i64 x1), (⟨w.heap.size, 2, none⟩, .int .i64 x2), (⟨w.heap.size, 3, none⟩, .int .i64 x3), (⟨w.heap.size, 4, none⟩, .int .i64 x4), (⟨w.heap.size + 1, 0, none⟩, .pointer (some ⟨w.heap.size, 0, none⟩)), (⟨w.heap.size + 1, 1, none⟩, .int .i64 1), (⟨w.heap.size + 1, 2, none⟩, .int .i64 2147483647), (⟨w.heap.size + 1, 3, none⟩, .pointer (some ⟨w.heap.size, 1, none⟩)), (⟨w.heap.size + 1, 4, none⟩, .int .i64 0), (⟨w.heap.size + 1, 5, none⟩, .int .i64 3), (⟨w.heap.size + 1, 6, none⟩, .pointer (some ⟨w.heap.size, 2, none⟩)), (⟨w.heap.size + 1, 7, none⟩, .int .i64 (-1)), (⟨w.heap.size + 1, 8, none⟩, .int .i64 2147483647), (⟨w.heap.size + 1, 9, none⟩, .pointer (some ⟨w.heap.size, 3, none⟩)), (⟨w.heap.size + 1, 10, none⟩, .int .i64 1), (⟨w.heap.size + 1, 11, none⟩, .int .i64 4), (⟨w.heap.size + 1, 12, none⟩, .pointer (some ⟨w.heap.size, 4, none⟩)), (⟨w.heap.size + 1, 13, none⟩, .int .i64 (-1048576)), (⟨w.heap.size + 1, 14, none⟩, .int .i64 1048576)]) w w') (Keeps.more (B := w.heap.size + 2) (L := [(⟨w.heap.size, 0, none⟩, .int .i64 x0), (⟨w.heap.size, 1, none⟩, .int .i64 x1), (⟨w.heap.size, 2, none⟩, .int .i64 x2), (⟨w.heap.size, 3, none⟩, .int .i64 x3), (⟨w.heap.size, 4, none⟩, .int .i64 x4), (⟨w.heap.size + 1, 0, none⟩, .pointer (some ⟨w.heap.size, 0, none⟩)), (⟨w.heap.size + 1, 1, none⟩, .int .i64 1), (⟨w.heap.size + 1, 2, none⟩, .int .i64 2147483647), (⟨w.heap.size + 1, 3, none⟩, .pointer (some ⟨w.heap.size, 1, none⟩)), (⟨w.heap.size + 1, 4, none⟩, .int .i64 0), (⟨w.heap.size + 1, 5, none⟩, .int .i64 3), (⟨w.heap.size + 1, 6, none⟩, .pointer (some ⟨w.heap.size, 2, none⟩)), (⟨w.heap.size + 1, 7, none⟩, .int .i64 (-1)), (⟨w.heap.size + 1, 8, none⟩, .int .i64 2147483647), (⟨w.heap.size + 1, 9, none⟩, .pointer (some ⟨w.heap.size, 3, none⟩)), (⟨w.heap.size + 1, 10, none⟩, .int .i64 1), (⟨w.heap.size + 1, 11, none⟩, .int .i64 4), (⟨w.heap.size + 1, 12, none⟩, .pointer (some ⟨w.heap.size, 4, none⟩)), (⟨w.heap.size + 1, 13, none⟩, .int .i64 (-1048576)), (⟨w.heap.size + 1, 14, none⟩, .int .i64 1048576)]) (by repeat (first | with_reducible assumption | with_reducible apply Keeps.drew | with_reducible apply Keeps.alloc)) (by omega) (by simp) (by simp [List.forall_mem_cons]) (by simp [cellsAre_cons, cellsAre_nil, go_sem])) ?_
      intro w2 hk2
      clear hk h1 h3 h4
      generalize wr.heap.size = b at *
      simp only [List.cons_append, List.nil_append] at hk2
      have hB := h2
      clear h2
      obtain ⟨h1, h2, h3, h4⟩ := id hk2
      simp only [cellsAre_cons, cellsAre_nil, and_true] at h4
      refine wp_region_all (fun w' => Keeps (b + 1) [(⟨b, 0, none⟩, .pointer (some ⟨w.heap.size, 1, none⟩)), (⟨b, 1, none⟩, .int .i64 0), (⟨b, 2, none⟩, .int .i64 3), (⟨w.heap.size, 0, none⟩, .int .i64 x0), (⟨w.heap.size, 1, none⟩, .int .i64 x1), (⟨w.heap.size, 2, none⟩, .int .i64 x2), (⟨w.heap.size, 3, none⟩, .int .i64 x3), (⟨w.heap.size, 4, none⟩, .int .i64 x4), (⟨w.heap.size + 1, 0, none⟩, .pointer (some ⟨w.heap.size, 0, none⟩)), (⟨w.heap.size + 1, 1, none⟩, .int .i64 1), (⟨w.heap.size + 1, 2, none⟩, .int .i64 2147483647), (⟨w.heap.size + 1, 3, none⟩, .pointer (some ⟨w.heap.size, 1, none⟩)), (⟨w.heap.size + 1, 4, none⟩, .int .i64 0), (⟨w.heap.size + 1, 5, none⟩, .int .i64 3), (⟨w.heap.size + 1, 6, none⟩, .pointer (some ⟨w.heap.size, 2, none⟩)), (⟨w.heap.size + 1, 7, none⟩, .int .i64 (-1)), (⟨w.heap.size + 1, 8, none⟩, .int .i64 2147483647), (⟨w.heap.size + 1, 9, none⟩, .pointer (some ⟨w.heap.size, 3, none⟩)), (⟨w.heap.size + 1, 10, none⟩, .int .i64 1), (⟨w.heap.size + 1, 11, none⟩, .int .i64 4), (⟨w.heap.size + 1, 12, none⟩, .pointer (some ⟨w.heap.size, 4, none⟩)), (⟨w.heap.size + 1, 13, none⟩, .int .i64 (-1048576)), (⟨w.heap.size + 1, 14, none⟩, .int .i64 1048576)] w w') (by kernel_rfl) (by kernel_rfl) (by with_reducible apply Keeps.drew; with_reducible assumption) rfl ?_
      intro K T hK hT hT'
      simp only [List.map] at hK ⊢
      go_wp2_with (first
        | (apply SeqD.skip; rfl; simp only [Act.put, List.setIfInBounds_toArray, List.set_cons_zero, List.set_cons_succ])
        | (apply SeqD.call; rfl; rfl; (intro w hw; obtain ⟨h1, h2, h3, h4⟩ := hT _ hw; simp only [cellsAre_cons, cellsAre_nil, and_true] at h4; go_simp; exact ⟨rfl, rfl⟩); (intro w hw; obtain ⟨h1, h2, h3, h4⟩ := hT _ hw; simp only [cellsAre_cons, cellsAre_nil, and_true] at h4; (first | fail)); simp only [Act.put, List.setIfInBounds_toArray, List.set_cons_zero, List.set_cons_succ])
        | (apply SeqD.pure; rfl; (intro w hw; obtain ⟨h1, h2, h3, h4⟩ := hT _ hw; simp only [cellsAre_cons, cellsAre_nil, and_true] at h4; go_simp; with_reducible rfl); simp only [Act.put, List.setIfInBounds_toArray, List.set_cons_zero, List.set_cons_succ])
        | (apply SeqD.split; rfl; rfl; all_goals (intro hc; simp only [hc]; try simp only [beq_iff_eq, decide_eq_true_eq, beq_eq_false_iff_ne, decide_eq_false_iff_not, bne_iff_ne, ne_eq, Bool.not_eq_true', Bool.not_eq_false', Int.not_le, Int.not_lt, bne_eq_false_iff_eq] at hc)))
      all_goals (apply SeqD.nil; refine hK _ ?_; clear h1 h2 h3 h4; intro w hw; obtain ⟨h1, h2, h3, h4⟩ := id hw; simp only [cellsAre_cons, cellsAre_nil, and_true] at h4; clear hT hT' hK)
      all_goals go_wp2
      all_goals first
        | (go_ret; refine ⟨ret_int ?_, h1⟩; rw [errOf, if_neg]; rw [HO.out, decide_eq_true_eq]; omega)
        | (go_roundw; (case rel => exact ⟨2, by omega, by go_num, by omega, hw.sub (by omega) (by simp [List.forall_mem_cons])⟩); (case measure => simp [intOf]))
    · have hk' := hk
      obtain ⟨h1, h2, h3, h4⟩ := hk'
      simp only [cellsAre_cons, cellsAre_nil, and_true] at h4
      go_wp2_with fail
      refine abs_code (fun w' => Keeps (wr.heap.size + 1) ([(⟨wr.heap.size, 0, none⟩, .pointer (some ⟨w.heap.size, 2, none⟩)), (⟨wr.heap.size, 1, none⟩, .int .i64 (-1)), (⟨wr.heap.size, 2, none⟩, .int .i64 2147483647)] ++ [(⟨w.heap.size, 0, none⟩, .int .i64 x0), (⟨w.heap.size, 1, none⟩, .int .i64 x1), (⟨w.heap.size, 2, none⟩, .int .i64 x2), (⟨w.heap.size, 3, none⟩, .int .i64 x3), (⟨w.heap.size, 4, none⟩, .int .i64 x4), (⟨w.heap.size + 1, 0, none⟩, .pointer (some ⟨w.heap.size, 0, none⟩)), (⟨w.heap.size + 1, 1, none⟩, .int .i64 1), (⟨w.heap.size + 1, 2, none⟩, .int .i64 2147483647), (⟨w.heap.size + 1, 3, none⟩, .pointer (some ⟨w.heap.size, 1, none⟩)), (⟨w.heap.size + 1, 4, none⟩, .int .i64 0), (⟨w.heap.size + 1, 5, none⟩, .int .i64 3), (⟨w.heap.size + 1, 6, none⟩, .pointer (some ⟨w.heap.size, 2, none⟩)), (⟨w.heap.size + 1, 7, none⟩, .int .i64 (-1)), (⟨w.heap.size + 1, 8, none⟩, .int .i64 2147483647), (⟨w.heap.size + 1, 9, none⟩, .pointer (some ⟨w.heap.size, 3, none⟩)), (⟨w.heap.size + 1, 10, none⟩, .int .i64 1), (⟨w.heap.size + 1, 11, none⟩, .int .i64 4), (⟨w.heap.size + 1, 12, none⟩, .pointer (some ⟨w.heap.size, 4, none⟩)), (⟨w.heap.size + 1, 13, none⟩, .int .i64 (-1048576)), (⟨w.heap.size + 1, 14, none⟩, .int .i64 1048576)]) w w') (Keeps.more (B := w.heap.size + 2) (L := [(⟨w.heap.size, 0, none⟩, .int .i64 x0), (⟨w.heap.size, 1, none⟩, .int .i64 x1), (⟨w.heap.size, 2, none⟩, .int .i64 x2), (⟨w.heap.size, 3, none⟩, .int .i64 x3), (⟨w.heap.size, 4, none⟩, .int .i64 x4), (⟨w.heap.size + 1, 0, none⟩, .pointer (some ⟨w.heap.size, 0, none⟩)), (⟨w.heap.size + 1, 1, none⟩, .int .i64 1), (⟨w.heap.size + 1, 2, none⟩, .int .i64 2147483647), (⟨w.heap.size + 1, 3, none⟩, .pointer (some ⟨w.heap.size, 1, none⟩)), (⟨w.heap.size + 1, 4, none⟩, .int .i64 0), (⟨w.heap.size + 1, 5, none⟩, .int .i64 3), (⟨w.heap.size + 1, 6, none⟩, .pointer (some ⟨w.heap.size, 2, none⟩)), (⟨w.heap.size + 1, 7, none⟩, .int .i64 (-1)), (⟨w.heap.size + 1, 8, none⟩, .int .i64 2147483647), (⟨w.heap.size + 1, 9, none⟩, .pointer (some ⟨w.heap.size, 3, none⟩)), (⟨w.heap.size + 1, 10, none⟩, .int .i64 1), (⟨w.heap.size + 1, 11, none⟩, .int .i64 4), (⟨w.heap.size + 1, 12, none⟩, .pointer (some ⟨w.heap.size, 4, none⟩)), (⟨w.heap.size + 1, 13, none⟩, .int .i64 (-1048576)), (⟨w.heap.size + 1, 14, none⟩, .int .i64 1048576)]) (by repeat (first | with_reducible assumption | with_reducible apply Keeps.drew | with_reducible apply Keeps.alloc)) (by omega) (by simp) (by simp [List.forall_mem_cons]) (by simp [cellsAre_cons, cellsAre_nil, go_sem])) ?_
      intro w2 hk2
      clear hk h1 h3 h4
      generalize wr.heap.size = b at *
      simp only [List.cons_append, List.nil_append] at hk2
      have hB := h2
      clear h2
      obtain ⟨h1, h2, h3, h4⟩ := id hk2
      simp only [cellsAre_cons, cellsAre_nil, and_true] at h4
      refine wp_region_all (fun w' => Keeps (b + 1) [(⟨b, 0, none⟩, .pointer (some ⟨w.heap.size, 2, none⟩)), (⟨b, 1, none⟩, .int .i64 (-1)), (⟨b, 2, none⟩, .int .i64 2147483647), (⟨w.heap.size, 0, none⟩, .int .i64 x0), (⟨w.heap.size, 1, none⟩, .int .i64 x1), (⟨w.heap.size, 2, none⟩, .int .i64 x2), (⟨w.heap.size, 3, none⟩, .int .i64 x3), (⟨w.heap.size, 4, none⟩, .int .i64 x4), (⟨w.heap.size + 1, 0, none⟩, .pointer (some ⟨w.heap.size, 0, none⟩)), (⟨w.heap.size + 1, 1, none⟩, .int .i64 1), (⟨w.heap.size + 1, 2, none⟩, .int .i64 2147483647), (⟨w.heap.size + 1, 3, none⟩, .pointer (some ⟨w.heap.size, 1, none⟩)), (⟨w.heap.size + 1, 4, none⟩, .int .i64 0), (⟨w.heap.size + 1, 5, none⟩, .int .i64 3), (⟨w.heap.size + 1, 6, none⟩, .pointer (some ⟨w.heap.size, 2, none⟩)), (⟨w.heap.size + 1, 7, none⟩, .int .i64 (-1)), (⟨w.heap.size + 1, 8, none⟩, .int .i64 2147483647), (⟨w.heap.size + 1, 9, none⟩, .pointer (some ⟨w.heap.size, 3, none⟩)), (⟨w.heap.size + 1, 10, none⟩, .int .i64 1), (⟨w.heap.size + 1, 11, none⟩, .int .i64 4), (⟨w.heap.size + 1, 12, none⟩, .pointer (some ⟨w.heap.size, 4, none⟩)), (⟨w.heap.size + 1, 13, none⟩, .int .i64 (-1048576)), (⟨w.heap.size + 1, 14, none⟩, .int .i64 1048576)] w w') (by kernel_rfl) (by kernel_rfl) (by with_reducible apply Keeps.drew; with_reducible assumption) rfl ?_
      intro K T hK hT hT'
      simp only [List.map] at hK ⊢
      go_wp2_with (first
        | (apply SeqD.skip; rfl; simp only [Act.put, List.setIfInBounds_toArray, List.set_cons_zero, List.set_cons_succ])
        | (apply SeqD.call; rfl; rfl; (intro w hw; obtain ⟨h1, h2, h3, h4⟩ := hT _ hw; simp only [cellsAre_cons, cellsAre_nil, and_true] at h4; go_simp; exact ⟨rfl, rfl⟩); (intro w hw; obtain ⟨h1, h2, h3, h4⟩ := hT _ hw; simp only [cellsAre_cons, cellsAre_nil, and_true] at h4; (first | fail)); simp only [Act.put, List.setIfInBounds_toArray, List.set_cons_zero, List.set_cons_succ])
        | (apply SeqD.pure; rfl; (intro w hw; obtain ⟨h1, h2, h3, h4⟩ := hT _ hw; simp only [cellsAre_cons, cellsAre_nil, and_true] at h4; go_simp; with_reducible rfl); simp only [Act.put, List.setIfInBounds_toArray, List.set_cons_zero, List.set_cons_succ])
        | (apply SeqD.split; rfl; rfl; all_goals (intro hc; simp only [hc]; try simp only [beq_iff_eq, decide_eq_true_eq, beq_eq_false_iff_ne, decide_eq_false_iff_not, bne_iff_ne, ne_eq, Bool.not_eq_true', Bool.not_eq_false', Int.not_le, Int.not_lt, bne_eq_false_iff_eq] at hc)))
      all_goals (apply SeqD.nil; refine hK _ ?_; clear h1 h2 h3 h4; intro w hw; obtain ⟨h1, h2, h3, h4⟩ := id hw; simp only [cellsAre_cons, cellsAre_nil, and_true] at h4; clear hT hT' hK)
      all_goals go_wp2
      all_goals first
        | (go_ret; refine ⟨ret_int ?_, h1⟩; rw [errOf, if_neg]; rw [HO.out, decide_eq_true_eq]; omega)
        | (go_roundw; (case rel => exact ⟨3, by omega, by go_num, by omega, hw.sub (by omega) (by simp [List.forall_mem_cons])⟩); (case measure => simp [intOf]))
    · have hk' := hk
      obtain ⟨h1, h2, h3, h4⟩ := hk'
      simp only [cellsAre_cons, cellsAre_nil, and_true] at h4
      go_wp2_with fail
      refine abs_code (fun w' => Keeps (wr.heap.size + 1) ([(⟨wr.heap.size, 0, none⟩, .pointer (some ⟨w.heap.size, 3, none⟩)), (⟨wr.heap.size, 1, none⟩, .int .i64 1), (⟨wr.heap.size, 2, none⟩, .int .i64 4)] ++ [(⟨w.heap.size, 0, none⟩, .int .i64 x0), (⟨w.heap.size, 1, none⟩, .int .i64 x1), (⟨w.heap.size, 2, none⟩, .int .i64 x2), (⟨w.heap.size, 3, none⟩, .int .i64 x3), (⟨w.heap.size, 4, none⟩, .int .i64 x4), (⟨w.heap.size + 1, 0, none⟩, .pointer (some ⟨w.heap.size, 0, none⟩)), (⟨w.heap.size + 1, 1, none⟩, .int .i64 1), (⟨w.heap.size + 1, 2, none⟩, .int .i64 2147483647), (⟨w.heap.size + 1, 3, none⟩, .pointer (some ⟨w.heap.size, 1, none⟩)), (⟨w.heap.size + 1, 4, none⟩, .int .i64 0), (⟨w.heap.size + 1, 5, none⟩, .int .i64 3), (⟨w.heap.size + 1, 6, none⟩, .pointer (some ⟨w.heap.size, 2, none⟩)), (⟨w.heap.size + 1, 7, none⟩, .int .i64 (-1)), (⟨w.heap.size + 1, 8, none⟩, .int .i64 2147483647), (⟨w.heap.size + 1, 9, none⟩, .pointer (some ⟨w.heap.size, 3, none⟩)), (⟨w.heap.size + 1, 10, none⟩, .int .i64 1), (⟨w.heap.size + 1, 11, none⟩, .int .i64 4), (⟨w.heap.size + 1, 12, none⟩, .pointer (some ⟨w.heap.size, 4, none⟩)), (⟨w.heap.size + 1, 13, none⟩, .int .i64 (-1048576)), (⟨w.heap.size + 1, 14, none⟩, .int .i64 1048576)]) w w') (Keeps.more (B := w.heap.size + 2) (L := [(⟨w.heap.size, 0, none⟩, .int .i64 x0), (⟨w.heap.size, 1, none⟩, .int .i64 x1), (⟨w.heap.size, 2, none⟩, .int .i64 x2), (⟨w.heap.size, 3, none⟩, .int .i64 x3), (⟨w.heap.size, 4, none⟩, .int .i64 x4), (⟨w.heap.size + 1, 0, none⟩, .pointer (some ⟨w.heap.size, 0, none⟩)), (⟨w.heap.size + 1, 1, none⟩, .int .i64 1), (⟨w.heap.size + 1, 2, none⟩, .int .i64 2147483647), (⟨w.heap.size + 1, 3, none⟩, .pointer (some ⟨w.heap.size, 1, none⟩)), (⟨w.heap.size + 1, 4, none⟩, .int .i64 0), (⟨w.heap.size + 1, 5, none⟩, .int .i64 3), (⟨w.heap.size + 1, 6, none⟩, .pointer (some ⟨w.heap.size, 2, none⟩)), (⟨w.heap.size + 1, 7, none⟩, .int .i64 (-1)), (⟨w.heap.size + 1, 8, none⟩, .int .i64 2147483647), (⟨w.heap.size + 1, 9, none⟩, .pointer (some ⟨w.heap.size, 3, none⟩)), (⟨w.heap.size + 1, 10, none⟩, .int .i64 1), (⟨w.heap.size + 1, 11, none⟩, .int .i64 4), (⟨w.heap.size + 1, 12, none⟩, .pointer (some ⟨w.heap.size, 4, none⟩)), (⟨w.heap.size + 1, 13, none⟩, .int .i64 (-1048576)), (⟨w.heap.size + 1, 14, none⟩, .int .i64 1048576)]) (by repeat (first | with_reducible assumption | with_reducible apply Keeps.drew | with_reducible apply Keeps.alloc)) (by omega) (by simp) (by simp [List.forall_mem_cons]) (by simp [cellsAre_cons, cellsAre_nil, go_sem])) ?_
      intro w2 hk2
      clear hk h1 h3 h4
      generalize wr.heap.size = b at *
      simp only [List.cons_append, List.nil_append] at hk2
      have hB := h2
      clear h2
      obtain ⟨h1, h2, h3, h4⟩ := id hk2
      simp only [cellsAre_cons, cellsAre_nil, and_true] at h4
      refine wp_region_all (fun w' => Keeps (b + 1) [(⟨b, 0, none⟩, .pointer (some ⟨w.heap.size, 3, none⟩)), (⟨b, 1, none⟩, .int .i64 1), (⟨b, 2, none⟩, .int .i64 4), (⟨w.heap.size, 0, none⟩, .int .i64 x0), (⟨w.heap.size, 1, none⟩, .int .i64 x1), (⟨w.heap.size, 2, none⟩, .int .i64 x2), (⟨w.heap.size, 3, none⟩, .int .i64 x3), (⟨w.heap.size, 4, none⟩, .int .i64 x4), (⟨w.heap.size + 1, 0, none⟩, .pointer (some ⟨w.heap.size, 0, none⟩)), (⟨w.heap.size + 1, 1, none⟩, .int .i64 1), (⟨w.heap.size + 1, 2, none⟩, .int .i64 2147483647), (⟨w.heap.size + 1, 3, none⟩, .pointer (some ⟨w.heap.size, 1, none⟩)), (⟨w.heap.size + 1, 4, none⟩, .int .i64 0), (⟨w.heap.size + 1, 5, none⟩, .int .i64 3), (⟨w.heap.size + 1, 6, none⟩, .pointer (some ⟨w.heap.size, 2, none⟩)), (⟨w.heap.size + 1, 7, none⟩, .int .i64 (-1)), (⟨w.heap.size + 1, 8, none⟩, .int .i64 2147483647), (⟨w.heap.size + 1, 9, none⟩, .pointer (some ⟨w.heap.size, 3, none⟩)), (⟨w.heap.size + 1, 10, none⟩, .int .i64 1), (⟨w.heap.size + 1, 11, none⟩, .int .i64 4), (⟨w.heap.size + 1, 12, none⟩, .pointer (some ⟨w.heap.size, 4, none⟩)), (⟨w.heap.size + 1, 13, none⟩, .int .i64 (-1048576)), (⟨w.heap.size + 1, 14, none⟩, .int .i64 1048576)] w w') (by kernel_rfl) (by kernel_rfl) (by with_reducible apply Keeps.drew; with_reducible assumption) rfl ?_
      intro K T hK hT hT'
      simp only [List.map] at hK ⊢
      go_wp2_with (first
        | (apply SeqD.skip; rfl; simp only [Act.put, List.setIfInBounds_toArray, List.set_cons_zero, List.set_cons_succ])
        | (apply SeqD.call; rfl; rfl; (intro w hw; obtain ⟨h1, h2, h3, h4⟩ := hT _ hw; simp only [cellsAre_cons, cellsAre_nil, and_true] at h4; go_simp; exact ⟨rfl, rfl⟩); (intro w hw; obtain ⟨h1, h2, h3, h4⟩ := hT _ hw; simp only [cellsAre_cons, cellsAre_nil, and_true] at h4; (first | fail)); simp only [Act.put, List.setIfInBounds_toArray, List.set_cons_zero, List.set_cons_succ])
        | (apply SeqD.pure; rfl; (intro w hw; obtain ⟨h1, h2, h3, h4⟩ := hT _ hw; simp only [cellsAre_cons, cellsAre_nil, and_true] at h4; go_simp; with_reducible rfl); simp only [Act.put, List.setIfInBounds_toArray, List.set_cons_zero, List.set_cons_succ])
        | (apply SeqD.split; rfl; rfl; all_goals (intro hc; simp only [hc]; try simp only [beq_iff_eq, decide_eq_true_eq, beq_eq_false_iff_ne, decide_eq_false_iff_not, bne_iff_ne, ne_eq, Bool.not_eq_true', Bool.not_eq_false', Int.not_le, Int.not_lt, bne_eq_false_iff_eq] at hc)))
      all_goals (apply SeqD.nil; refine hK _ ?_; clear h1 h2 h3 h4; intro w hw; obtain ⟨h1, h2, h3, h4⟩ := id hw; simp only [cellsAre_cons, cellsAre_nil, and_true] at h4; clear hT hT' hK)
      all_goals go_wp2
      all_goals first
        | (go_ret; refine ⟨ret_int ?_, h1⟩; rw [errOf, if_neg]; rw [HO.out, decide_eq_true_eq]; omega)
        | (go_roundw; (case rel => exact ⟨4, by omega, by go_num, by omega, hw.sub (by omega) (by simp [List.forall_mem_cons])⟩); (case measure => simp [intOf]))
    · have hk' := hk
      obtain ⟨h1, h2, h3, h4⟩ := hk'
      simp only [cellsAre_cons, cellsAre_nil, and_true] at h4
      go_wp2_with fail
      refine abs_code (fun w' => Keeps (wr.heap.size + 1) ([(⟨wr.heap.size, 0, none⟩, .pointer (some ⟨w.heap.size, 4, none⟩)), (⟨wr.heap.size, 1, none⟩, .int .i64 (-1048576)), (⟨wr.heap.size, 2, none⟩, .int .i64 1048576)] ++ [(⟨w.heap.size, 0, none⟩, .int .i64 x0), (⟨w.heap.size, 1, none⟩, .int .i64 x1), (⟨w.heap.size, 2, none⟩, .int .i64 x2), (⟨w.heap.size, 3, none⟩, .int .i64 x3), (⟨w.heap.size, 4, none⟩, .int .i64 x4), (⟨w.heap.size + 1, 0, none⟩, .pointer (some ⟨w.heap.size, 0, none⟩)), (⟨w.heap.size + 1, 1, none⟩, .int .i64 1), (⟨w.heap.size + 1, 2, none⟩, .int .i64 2147483647), (⟨w.heap.size + 1, 3, none⟩, .pointer (some ⟨w.heap.size, 1, none⟩)), (⟨w.heap.size + 1, 4, none⟩, .int .i64 0), (⟨w.heap.size + 1, 5, none⟩, .int .i64 3), (⟨w.heap.size + 1, 6, none⟩, .pointer (some ⟨w.heap.size, 2, none⟩)), (⟨w.heap.size + 1, 7, none⟩, .int .i64 (-1)), (⟨w.heap.size + 1, 8, none⟩, .int .i64 2147483647), (⟨w.heap.size + 1, 9, none⟩, .pointer (some ⟨w.heap.size, 3, none⟩)), (⟨w.heap.size + 1, 10, none⟩, .int .i64 1), (⟨w.heap.size + 1, 11, none⟩, .int .i64 4), (⟨w.heap.size + 1, 12, none⟩, .pointer (some ⟨w.heap.size, 4, none⟩)), (⟨w.heap.size + 1, 13, none⟩, .int .i64 (-1048576)), (⟨w.heap.size + 1, 14, none⟩, .int .i64 1048576)]) w w') (Keeps.more (B := w.heap.size + 2) (L := [(⟨w.heap.size, 0, none⟩, .int .i64 x0), (⟨w.heap.size, 1, none⟩, .int .i64 x1), (⟨w.heap.size, 2, none⟩, .int .i64 x2), (⟨w.heap.size, 3, none⟩, .int .i64 x3), (⟨w.heap.size, 4, none⟩, .int .i64 x4), (⟨w.heap.size + 1, 0, none⟩, .pointer (some ⟨w.heap.size, 0, none⟩)), (⟨w.heap.size + 1, 1, none⟩, .int .i64 1), (⟨w.heap.size + 1, 2, none⟩, .int .i64 2147483647), (⟨w.heap.size + 1, 3, none⟩, .pointer (some ⟨w.heap.size, 1, none⟩)), (⟨w.heap.size + 1, 4, none⟩, .int .i64 0), (⟨w.heap.size + 1, 5, none⟩, .int .i64 3), (⟨w.heap.size + 1, 6, none⟩, .pointer (some ⟨w.heap.size, 2, none⟩)), (⟨w.heap.size + 1, 7, none⟩, .int .i64 (-1)), (⟨w.heap.size + 1, 8, none⟩, .int .i64 2147483647), (⟨w.heap.size + 1, 9, none⟩, .pointer (some ⟨w.heap.size, 3, none⟩)), (⟨w.heap.size + 1, 10, none⟩, .int .i64 1), (⟨w.heap.size + 1, 11, none⟩, .int .i64 4), (⟨w.heap.size + 1, 12, none⟩, .pointer (some ⟨w.heap.size, 4, none⟩)), (⟨w.heap.size + 1, 13, none⟩, .int .i64 (-1048576)), (⟨w.heap.size + 1, 14, none⟩, .int .i64 1048576)]) (by repeat (first | with_reducible assumption | with_reducible apply Keeps.drew | with_reducible apply Keeps.alloc)) (by omega) (by simp) (by simp [List.forall_mem_cons]) (by simp [cellsAre_cons, cellsAre_nil, go_sem])) ?_
      intro w2 hk2
      clear hk h1 h3 h4
      generalize wr.heap.size = b at *
      simp only [List.cons_append, List.nil_append] at hk2
      have hB := h2
      clear h2
      obtain ⟨h1, h2, h3, h4⟩ := id hk2
      simp only [cellsAre_cons, cellsAre_nil, and_true] at h4
      refine wp_region_all (fun w' => Keeps (b + 1) [(⟨b, 0, none⟩, .pointer (some ⟨w.heap.size, 4, none⟩)), (⟨b, 1, none⟩, .int .i64 (-1048576)), (⟨b, 2, none⟩, .int .i64 1048576), (⟨w.heap.size, 0, none⟩, .int .i64 x0), (⟨w.heap.size, 1, none⟩, .int .i64 x1), (⟨w.heap.size, 2, none⟩, .int .i64 x2), (⟨w.heap.size, 3, none⟩, .int .i64 x3), (⟨w.heap.size, 4, none⟩, .int .i64 x4), (⟨w.heap.size + 1, 0, none⟩, .pointer (some ⟨w.heap.size, 0, none⟩)), (⟨w.heap.size + 1, 1, none⟩, .int .i64 1), (⟨w.heap.size + 1, 2, none⟩, .int .i64 2147483647), (⟨w.heap.size + 1, 3, none⟩, .pointer (some ⟨w.heap.size, 1, none⟩)), (⟨w.heap.size + 1, 4, none⟩, .int .i64 0), (⟨w.heap.size + 1, 5, none⟩, .int .i64 3), (⟨w.heap.size + 1, 6, none⟩, .pointer (some ⟨w.heap.size, 2, none⟩)), (⟨w.heap.size + 1, 7, none⟩, .int .i64 (-1)), (⟨w.heap.size + 1, 8, none⟩, .int .i64 2147483647), (⟨w.heap.size + 1, 9, none⟩, .pointer (some ⟨w.heap.size, 3, none⟩)), (⟨w.heap.size + 1, 10, none⟩, .int .i64 1), (⟨w.heap.size + 1, 11, none⟩, .int .i64 4), (⟨w.heap.size + 1, 12, none⟩, .pointer (some ⟨w.heap.size, 4, none⟩)), (⟨w.heap.size + 1, 13, none⟩, .int .i64 (-1048576)), (⟨w.heap.size + 1, 14, none⟩, .int .i64 1048576)] w w') (by kernel_rfl) (by kernel_rfl) (by with_reducible apply Keeps.drew; with_reducible assumption) rfl ?_
      intro K T hK hT hT'
      simp only [List.map] at hK ⊢
      go_wp2_with (first
        | (apply SeqD.skip; rfl; simp only [Act.put, List.setIfInBounds_toArray, List.set_cons_zero, List.set_cons_succ])
        | (apply SeqD.call; rfl; rfl; (intro w hw; obtain ⟨h1, h2, h3, h4⟩ := hT _ hw; simp only [cellsAre_cons, cellsAre_nil, and_true] at h4; go_simp; exact ⟨rfl, rfl⟩); (intro w hw; obtain ⟨h1, h2, h3, h4⟩ := hT _ hw; simp only [cellsAre_cons, cellsAre_nil, and_true] at h4; (first | fail)); simp only [Act.put, List.setIfInBounds_toArray, List.set_cons_zero, List.set_cons_succ])
        | (apply SeqD.pure; rfl; (intro w hw; obtain ⟨h1, h2, h3, h4⟩ := hT _ hw; simp only [cellsAre_cons, cellsAre_nil, and_true] at h4; go_simp; with_reducible rfl); simp only [Act.put, List.setIfInBounds_toArray, List.set_cons_zero, List.set_cons_succ])
        | (apply SeqD.split; rfl; rfl; all_goals (intro hc; simp only [hc]; try simp only [beq_iff_eq, decide_eq_true_eq, beq_eq_false_iff_ne, decide_eq_false_iff_not, bne_iff_ne, ne_eq, Bool.not_eq_true', Bool.not_eq_false', Int.not_le, Int.not_lt, bne_eq_false_iff_eq] at hc)))
      all_goals (apply SeqD.nil; refine hK _ ?_; clear h1 h2 h3 h4; intro w hw; obtain ⟨h1, h2, h3, h4⟩ := id hw; simp only [cellsAre_cons, cellsAre_nil, and_true] at h4; clear hT hT' hK)
      all_goals go_wp2
      all_goals first
        | (go_ret; refine ⟨ret_int ?_, h1⟩; rw [errOf, if_neg]; rw [HO.out, decide_eq_true_eq]; omega)
        | (go_roundw; (case rel => exact ⟨5, by omega, by go_num, by omega, hw.sub (by omega) (by simp [List.forall_mem_cons])⟩); (case measure => simp [intOf]))
    · have hk' := hk
      obtain ⟨h1, h2, h3, h4⟩ := hk'
      simp only [cellsAre_cons, cellsAre_nil, and_true] at h4
      go_wp2
      go_ret
      refine ⟨ret_int ?_, h1⟩
      rw [errOf, if_pos]
      rw [HO.out, decide_eq_true_eq]
      omega
end Go.Proofs.Ytdphfhenjndkkaa

set_option linter.unusedSimpArgs false
set_option linter.unusedVariables false
set_option maxRecDepth 100000
namespace Go.Proofs.Ytdphfhenjndkkaa
open Go Go.RowKit Go.Sq Go.Wd Go.Arch

theorem okEnt_no {v : Int} {e : Ent} (h : ¬ (1 ≤ e.1 ∧ e.1 ≤ v) ∨ ordOk (ordE e) = false) : okEnt v e = false := by
  unfold okEnt
  rcases h with h | h
  · rw [decide_eq_false h]; rfl
  · rw [h, Bool.and_false]
theorem okLog_no {l : List Ent} {v : Int} {i : Nat} {e : Ent} (he : l[i]? = some e) (h : okEnt v e = false) : okLog l v = false := by
  cases hb : okLog l v
  · rfl
  · have := ((okLog_iff l v).1 hb).2.1 e (List.mem_of_getElem? he)
    rw [h] at this
    cases this
theorem okLog_long {l : List Ent} {v : Int} (h : 64 < l.length) : okLog l v = false := by
  cases hb : okLog l v
  · rfl
  · have := ((okLog_iff l v).1 hb).1
    omega
theorem okLog_all {l : List Ent} {v : Int} (h : ∀ e ∈ l, okEnt v e = true) (hl : l.length ≤ 64) : okLog l v = risesB l := by
  unfold okLog
  rw [decide_eq_true hl, List.all_eq_true.2 h]
  rfl

set_option maxHeartbeats 4000000 in
theorem whole_any (l : List Ent) (A : Option Addr) (c : Nat) (v : Int) (w : World) (ha : Ents w w.heap.size A l) (hl : l.length ≤ 9223372036854775807) :
    Calls Try.prog 62 #[.slice A l.length c, .int .i64 v] w fun e w' => e = .returned (.bool (okLog l v)) ∧ Below w.heap.size w w' := by
  have hw := Below.refl w.heap.size w
  have HE := Lib.hid ha
  clear ha
  go_enter Try.func62, Try.ntmps62
  go_wp2_with fail
  go_loopg [9] l.length (fun q i wr => ∃ (j : Nat), q = l.length - j ∧ j ≤ l.length ∧ i = .int .i64 j ∧ (∀ e ∈ l.take j, okEnt v e = true) ∧ Below w.heap.size w wr)
  case atStart => exact ⟨0, rfl, by omega, rfl, by simp, hw⟩
  case round =>
    clear hw
    obtain ⟨j, hq, hj, rfl, ht, hB⟩ := hrel
    have AA : Aside (gk = l.length - j ∧ ∀ e ∈ l.take j, okEnt v e = true) := ⟨hq, ht⟩
    clear hq ht
    by_cases hlt : j < l.length
    · obtain ⟨b1, o1, x, rfl, hx, FA⟩ := HE.out.at_ hlt
      obtain ⟨q0, q1, q2, q3, q4, q5⟩ := FA _ hB
      have hz := hB.size
      clear FA
      by_cases h1 : x.1 < 1
      · have HN := Lib.hid (okLog_no hx.out (okEnt_no (v := v) (.inl (by omega))))
        go_wp2_with fail
        go_ret
        rw [HN.out]
        exact ⟨rfl, by (repeat (first | with_reducible apply Below.drew | with_reducible refine Below.setCell ?_ (by first | exact Nat.le_refl _ | (simp; done) | (simp; omega) | omega) _ | with_reducible refine Below.alloc ?_ (by first | exact Nat.le_refl _ | (simp; done) | (simp; omega) | omega) _ | with_reducible exact Below.refl _ _ | with_reducible assumption))⟩
      by_cases h2 : v < x.1
      · have HN := Lib.hid (okLog_no hx.out (okEnt_no (v := v) (.inl (by omega))))
        go_wp2_with fail
        go_ret
        rw [HN.out]
        exact ⟨rfl, by (repeat (first | with_reducible apply Below.drew | with_reducible refine Below.setCell ?_ (by first | exact Nat.le_refl _ | (simp; done) | (simp; omega) | omega) _ | with_reducible refine Below.alloc ?_ (by first | exact Nat.le_refl _ | (simp; done) | (simp; omega) | omega) _ | with_reducible exact Below.refl _ _ | with_reducible assumption))⟩
      go_wp2_with fail
      refine (check_any _ _ _ _ _ _).mono ?_
      rintro e w1 ⟨rfl, hb⟩
      have hB1 := below_trans (hB.alloc hz _) hb (by simp; omega)
      clear hb hB
      cases hO : ordOk (ordE x) with
      | false =>
        have HN := Lib.hid (okLog_no hx.out (okEnt_no (v := v) (.inr hO)))
        have hO' : ordOk ⟨x.2.1, x.2.2.1, x.2.2.2.1, x.2.2.2.2.1, x.2.2.2.2.2⟩ = false := hO
        rw [hO']
        simp only [errOf]
        go_wp2_with fail
        go_ret
        rw [HN.out]
        exact ⟨rfl, hB1⟩
      | true =>
        have HT : Hid (∀ e ∈ l.take (j + 1), okEnt v e = true) := Lib.hid (fun e he => by
          rw [List.take_add_one, hx.out] at he
          rcases List.mem_append.1 he with he | he
          · exact AA.out.2 e he
          · obtain rfl : e = x := by simpa using he
            unfold okEnt
            rw [hO, decide_eq_true (by omega)]
            rfl)
        have hO' : ordOk ⟨x.2.1, x.2.2.1, x.2.2.2.1, x.2.2.2.2.1, x.2.2.2.2.2⟩ = true := hO
        rw [hO']
        simp only [errOf]
        go_wp2_with fail
        go_roundg (l.length - (j + 1))
        case measure => have hkk := AA.out.1; omega
        case rel => exact ⟨j + 1, rfl, by omega, by go_num, HT.out, hB1⟩
    · obtain rfl : j = l.length := by omega
      have hall := AA.out.2
      rw [List.take_length] at hall
      have hz := hB.size
      by_cases h64 : 64 < l.length
      · have HN := Lib.hid (okLog_long (v := v) h64)
        clear hall
        go_wp2_with fail
        go_ret
        rw [HN.out]
        exact ⟨rfl, hB⟩
      · have h64' : l.length ≤ 64 := by omega
        have HN := Lib.hid (okLog_all hall h64')
        clear hall
        go_wp2_with fail
        refine (rising_any l A c _ ((HE.out.below hB).more hz) hl).mono ?_
        rintro e w1 ⟨rfl, hb⟩
        have hB1 := below_trans hB hb hz
        clear hb
        go_wp2_with fail
        go_ret
        rw [HN.out]
        exact ⟨rfl, hB1⟩

theorem mayR_no {r : RegS} (h : ¬ ((0 ≤ r.view ∧ r.view ≤ r.prom ∧ r.prom ≤ 1048576) ∧ okLog r.log r.view = true ∧ 0 ≤ r.com ∧ r.com ≤ r.log.length)) : mayR r = false := by
  cases hb : mayR r
  · rfl
  · exact absurd ((mayR_iff r).1 hb) h

set_option maxHeartbeats 4000000 in
theorem check15_any (r : RegS) (sl : SlcE) (w : World) (hl : LogAt w w.heap.size sl r.log) :
    Calls Try.prog 36 #[.agg (rgv r sl).toArray] w fun e w' => e = .returned (.bool (mayR r)) ∧ Below w.heap.size w w' := by
  obtain ⟨p, v, lg, k⟩ := r
  obtain ⟨A, n, c⟩ := sl
  obtain rfl : n = lg.length := hl.1
  have hc2 : lg.length ≤ 9223372036854775807 := Nat.le_trans hl.2.1 hl.2.2.1
  have HE := Lib.hid hl.2.2.2
  clear hl
  unfold rgv
  have hw := Below.refl w.heap.size w
  have hb0 : Below w.heap.size w (w.alloc (.cells #[.int .i64 p, .int .i64 v, .slice A lg.length c, .int .i64 k] 37)) := hw.alloc (Nat.le_refl _) _
  by_cases h1 : 0 ≤ v
  case neg =>
    have HN := Lib.hid (mayR_no (r := ⟨p, v, lg, k⟩) (fun h => h1 h.1.1))
    go_enter Try.func36, Try.ntmps36
    go_wp2_with fail
    go_ret
    rw [HN.out]
    exact ⟨rfl, hb0⟩
  by_cases h2 : v ≤ p
  case neg =>
    have HN := Lib.hid (mayR_no (r := ⟨p, v, lg, k⟩) (fun h => h2 h.1.2.1))
    go_enter Try.func36, Try.ntmps36
    go_wp2_with fail
    go_ret
    rw [HN.out]
    exact ⟨rfl, hb0⟩
  by_cases h3 : p ≤ 1048576
  case neg =>
    have HN := Lib.hid (mayR_no (r := ⟨p, v, lg, k⟩) (fun h => h3 h.1.2.2))
    go_enter Try.func36, Try.ntmps36
    go_wp2_with fail
    go_ret
    rw [HN.out]
    exact ⟨rfl, hb0⟩
  have HH := Lib.hid (And.intro hb0 (Blk.new w 37 [.int .i64 p, .int .i64 v, .slice A lg.length c, .int .i64 k]))
  clear hb0
  go_enter Try.func36, Try.ntmps36
  go_wp2_with fail
  refine (whole_any lg A c v _ ((HE.out.below HH.out.1).more HH.out.1.size) hc2).mono ?_
  rintro e w1 ⟨rfl, hb⟩
  have hw1 := below_trans HH.out.1 hb HH.out.1.size
  have B1 := HH.out.2.keep hb
  clear hb HH
  cases hO : okLog lg v with
  | false =>
    have HN := Lib.hid (mayR_no (r := ⟨p, v, lg, k⟩) (fun h => by have := h.2.1; dsimp only at this; rw [hO] at this; cases this))
    clear hO
    go_wp2_with fail
    go_ret
    rw [HN.out]
    exact ⟨rfl, hw1⟩
  | true =>
    have c2 := B1.cell 2
    have c3 := B1.cell 3
    simp at c2 c3
    have HO := Lib.hid hO
    clear hO
    by_cases h4 : 0 ≤ k
    case neg =>
      have HN := Lib.hid (mayR_no (r := ⟨p, v, lg, k⟩) (fun h => h4 h.2.2.1))
      go_wp2_with fail
      go_ret
      rw [HN.out]
      exact ⟨rfl, hw1⟩
    by_cases h5 : k ≤ (lg.length : Int)
    case neg =>
      have HN := Lib.hid (mayR_no (r := ⟨p, v, lg, k⟩) (fun h => h5 h.2.2.2))
      have d5 : decide (k ≤ (lg.length : Int)) = false := decide_eq_false h5
      go_wp2_with fail
      go_ret
      rw [HN.out]
      exact ⟨rfl, hw1⟩
    have HN := Lib.hid ((mayR_iff ⟨p, v, lg, k⟩).2 ⟨⟨h1, h2, h3⟩, HO.out, h4, h5⟩)
    have d5 : decide (k ≤ (lg.length : Int)) = true := decide_eq_true h5
    go_wp2_with fail
    go_ret
    rw [HN.out]
    exact ⟨rfl, hw1⟩
end Go.Proofs.Ytdphfhenjndkkaa
