/-
  What stays where few blocks turn.
  A piece of mail, in plain Lean.
  Rows of structs, whatever struct: a way of writing each one as cells; slices that read as lists; rows of the call's own.
  Elements put into a row of the call's own, and its end cleared.
  Rows of mail.
  Loads of a piece of mail from amid a slice; the walks over chapter 18's 'beyond' and 'entry'.
  What a site does with mail that asks something of its register, in plain Lean; rows of records.
  The walks over 'back' (the program's, the document's), and 'refuse'.
  The walks over slices.Grow (of nil) and slices.Concat (of two) at entries.
  Rows of records of the call's own; pieces of logs.
  The walk over 'prepare'.
-/
import Derived.Lib.Hide
import Derived.Lib.SliceRun
import Derived.Deep.LoopGhost
import Derived.Lib.AppendZeros
import Derived.Test.YtdphfhenjndkkaaReplicasTakeK1
import Derived.Test.YtdphfhenjndkkaaReplicasTakeK2
import Derived.Test.YtdphfhenjndkkaaReplicasTakeK3
set_option linter.unusedSimpArgs false
set_option linter.unusedVariables false
set_option maxRecDepth 100000
namespace Go.Proofs.Ytdphfhenjndkkaa
open Go Go.RowKit Go.Sq Go.Wd Go.Arch

/-- A row stays where a block of another type turns. -/
theorem own_beside {w w' : World} {B : Nat} {e : TypeId} {size n q : Nat} {v : Value} {xs : List Value} (h : w.ownsRow B e size v n xs) (hg : w.grownBy w' (some q)) (hq : ∀ cs, w.heap[q]? ≠ some (.cells cs e (0, 0))) : w'.ownsRow B e size v n xs :=
  h.kept hg (by
    rcases h.2 with ⟨rfl, _⟩ | ⟨g, cap, cur, rfl, _, hh, _⟩
    · exact .inl rfl
    · refine .inr (fun e => ?_)
      have e2 : g = q := by simpa [Value.ownBlock] using e
      subst e2
      exact hq _ hh)
theorem blk_not {w : World} {k : Nat} {T U : TypeId} {cs : List Value} (h : Blk w k T cs) (hT : T ≠ U) : ∀ xs, w.heap[k]? ≠ some (.cells xs U (0, 0)) := fun xs e => by
  unfold Blk at h
  rw [h] at e
  injection e with e
  injection e with _ e _
  exact hT e
theorem own_not {w : World} {B : Nat} {T U : TypeId} {size n q : Nat} {v : Value} {xs : List Value} (h : w.ownsRow B T size v n xs) (hq : v.ownBlock = some q) (hT : T ≠ U) : ∀ cs, w.heap[q]? ≠ some (.cells cs U (0, 0)) := fun cs e => by
  rcases h.2 with ⟨rfl, _⟩ | ⟨g, cap, cur, rfl, _, hh, _⟩
  · cases hq
  · have e2 : g = q := by simpa [Value.ownBlock] using hq
    subst e2
    rw [hh] at e
    injection e with e
    injection e with _ e _
    exact hT e
/-- Two blocks turn, at most. -/
def Kept (w w' : World) (r1 r2 : Option Nat) : Prop :=
  w'.os = w.os ∧ w'.tape = w.tape ∧ w'.output = w.output ∧ w.heap.size ≤ w'.heap.size ∧ ∀ k, k < w.heap.size → some k ≠ r1 → some k ≠ r2 → w'.heap[k]? = w.heap[k]?
theorem Kept.of {w W1 W2 W3 : World} {r1 r2 : Option Nat} {x : Nat} (h1 : w.grownBy W1 r1) (h2 : W1.grownBy W2 r2) (h3 : W2.grownBy W3 (some x)) (hx : w.heap.size ≤ x) : Kept w W3 r1 r2 := by
  have s1 := h1.size
  have s2 := h2.size
  have s3 := h3.size
  refine ⟨h3.os.trans (h2.os.trans h1.os), h3.tape.trans (h2.tape.trans h1.tape), h3.output.trans (h2.output.trans h1.output), by omega, fun k hk a b => ?_⟩
  exact (h3.block k (by omega) (by intro e; cases e; omega)).trans ((h2.block k (by omega) b).trans (h1.block k hk a))
theorem Kept.below {w w' : World} {r1 r2 : Option Nat} {B : Nat} (h : Kept w w' r1 r2) (h1 : ∀ k, r1 = some k → B ≤ k) (h2 : ∀ k, r2 = some k → B ≤ k) (hB : B ≤ w.heap.size) : Below B w w' :=
  ⟨h.1, h.2.1, h.2.2.1, h.2.2.2.1, fun k hk => h.2.2.2.2 k (by omega) (fun e => by have := h1 k e.symm; omega) (fun e => by have := h2 k e.symm; omega)⟩
theorem own_block {w w' : World} {B : Nat} {e : TypeId} {size n : Nat} {v : Value} {xs : List Value} (h : w.ownsRow B e size v n xs) (hs : w.heap.size ≤ w'.heap.size) (hb : ∀ g, v.ownBlock = some g → w'.heap[g]? = w.heap[g]?) : w'.ownsRow B e size v n xs := by
  refine ⟨h.1, ?_⟩
  rcases h.2 with h | ⟨g, cap, cur, rfl, h1, h2, r⟩
  · exact .inl h
  · exact .inr ⟨g, cap, cur, rfl, h1, (hb g rfl).trans h2, r⟩
theorem Kept.refl (w : World) (r1 r2 : Option Nat) : Kept w w r1 r2 := ⟨rfl, rfl, rfl, Nat.le_refl _, fun _ _ _ _ => rfl⟩
theorem Kept.trans {w w1 w2 : World} {r1 r2 : Option Nat} (h : Kept w w1 r1 r2) (h' : Kept w1 w2 r1 r2) : Kept w w2 r1 r2 :=
  ⟨h'.1.trans h.1, h'.2.1.trans h.2.1, h'.2.2.1.trans h.2.2.1, Nat.le_trans h.2.2.2.1 h'.2.2.2.1, fun k hk a b => (h'.2.2.2.2 k (by have := h.2.2.2.1; omega) a b).trans (h.2.2.2.2 k hk a b)⟩
theorem Kept.ofBelow {w w' : World} (h : Below w.heap.size w w') (r1 r2 : Option Nat) : Kept w w' r1 r2 := ⟨h.os, h.tape, h.output, h.size, fun k hk _ _ => h.block k hk⟩
theorem Kept.ofGrown {w w' : World} {r1 r2 : Option Nat} (h : w.grownBy w' r1) : Kept w w' r1 r2 := ⟨h.os, h.tape, h.output, h.size, fun k hk a _ => h.block k hk a⟩
theorem Kept.more {w w' : World} {r1 r2 : Option Nat} (h : Kept w w' r1 none) : Kept w w' r1 r2 := ⟨h.1, h.2.1, h.2.2.1, h.2.2.2.1, fun k hk a _ => h.2.2.2.2 k hk a (by simp)⟩
theorem Kept.blk {w w' : World} {r1 r2 : Option Nat} {g : Nat} {T : TypeId} {cs : List Value} (h : Kept w w' r1 r2) (hb : Blk w g T cs) (h1 : some g ≠ r1) (h2 : some g ≠ r2) : Blk w' g T cs := by
  have hl := hb.lt
  unfold Blk at hb ⊢
  rw [h.2.2.2.2 g hl h1 h2, hb]
/-- A row stays where blocks of other types turn. -/
theorem Kept.own {w w' : World} {r1 r2 : Option Nat} {B : Nat} {e : TypeId} {size n : Nat} {v : Value} {xs : List Value} (hk : Kept w w' r1 r2) (h : w.ownsRow B e size v n xs)
    (h1 : ∀ q, r1 = some q → ∀ cs, w.heap[q]? ≠ some (.cells cs e (0, 0))) (h2 : ∀ q, r2 = some q → ∀ cs, w.heap[q]? ≠ some (.cells cs e (0, 0))) : w'.ownsRow B e size v n xs :=
  own_block h hk.2.2.2.1 (fun g hg => by
    rcases h.2 with ⟨rfl, _⟩ | ⟨g', cap, cur, rfl, _, hh, _⟩
    · cases hg
    · obtain rfl : g' = g := by simpa [Value.ownBlock] using hg
      have hlt : g' < w.heap.size := by
        rcases Nat.lt_or_ge g' w.heap.size with h | h
        · exact h
        · rw [Array.getElem?_eq_none h] at hh
          cases hh
      exact hk.2.2.2.2 g' hlt (fun e => h1 g' e.symm _ hh) (fun e => h2 g' e.symm _ hh))
end Go.Proofs.Ytdphfhenjndkkaa

set_option linter.unusedSimpArgs false
set_option linter.unusedVariables false
set_option maxRecDepth 100000
namespace Go.Proofs.Ytdphfhenjndkkaa
open Go

/-- A piece of mail, as far as a ballot looks at it. -/
structure MailS where
  kind : Int
  from_ : Int
  to : Int
  stream : Int
  epoch : Int
  view : Int
  base : Int
  len : Int
  stamp : Int
  ents : List Ent
def MailS.reg (m : MailS) : RegS := ⟨m.epoch, m.view, m.ents, m.len⟩
end Go.Proofs.Ytdphfhenjndkkaa

set_option linter.unusedSimpArgs false
set_option linter.unusedVariables false
set_option maxRecDepth 100000
namespace Go.Gr
open Go Go.RowKit Go.Wd

/-- How an element lies: its type, the slice's type, its cells. -/
structure Enc (P : Program) (α : Type) where
  elem : TypeId
  slice : TypeId
  size : Nat
  bytes : Nat
  zero : Value
  enc : α → List Value
  len : ∀ a, (enc a).length = size
  one : ∀ a, ∀ v ∈ enc a, v.oneCell' = true
  pos : 0 < size
  und : P.underlying slice = some (.slice elem)
  info : (P.info? elem).map (fun i => (i.zero, i.size, i.bytes)) = some (some zero, size, bytes)
  zs : zero.cells.size = size
  few : bytes ≤ 1000

section
variable {P : Program} {α : Type} (R : Enc P α)
def Enc.flat (l : List α) : List Value := l.flatMap R.enc
theorem Enc.flat_cons (a : α) (l : List α) : R.flat (a :: l) = R.enc a ++ R.flat l := rfl
theorem Enc.flat_nil : R.flat [] = [] := rfl
theorem Enc.flat_len (l : List α) : (R.flat l).length = l.length * R.size := by
  induction l with
  | nil => simp [Enc.flat]
  | cons a l ih => rw [R.flat_cons, List.length_append, ih, R.len, List.length_cons, Nat.add_mul, Nat.one_mul]; omega
theorem Enc.flat_app (l m : List α) : R.flat (l ++ m) = R.flat l ++ R.flat m := by simp [Enc.flat]
theorem Enc.flat_one (a : α) : R.flat [a] = R.enc a := by simp [Enc.flat]
theorem Enc.flat_get : ∀ (l : List α) (i : Nat) (e : α) (k : Nat), l[i]? = some e → k < R.size → (R.flat l)[i * R.size + k]? = (R.enc e)[k]?
  | [], i, e, k, h, _ => by simp at h
  | a :: l, 0, e, k, h, hk => by
    simp at h
    subst h
    rw [R.flat_cons, Nat.zero_mul, Nat.zero_add, List.getElem?_append_left (by rw [R.len]; exact hk)]
  | a :: l, i + 1, e, k, h, hk => by
    have ih := Enc.flat_get l i e k (by simpa using h) hk
    rw [R.flat_cons, List.getElem?_append_right (by rw [R.len, Nat.add_mul]; omega), ← ih, R.len]
    congr 1
    rw [Nat.add_mul]
    omega
theorem Enc.flat_1 (l : List α) : ∀ u ∈ R.flat l, u.oneCell' = true := by
  intro u hu
  simp only [Enc.flat, List.mem_flatMap] at hu
  obtain ⟨e, _, hu⟩ := hu
  exact R.one e u hu
theorem add_at (b o j : Nat) : (⟨b, o, none⟩ : Addr).add j = ⟨b, o + j, none⟩ := by
  unfold Addr.add
  by_cases h : j = 0 <;> simp [h]

/-- The cells of an element lie at this place. -/
def At (w : World) (b o : Nat) (e : α) : Prop := ∀ k, k < R.size → w.cell? ⟨b, o + k, none⟩ = (R.enc e)[k]?
/-- The slice at A holds these elements, below block B. -/
def Sl (w : World) (B : Nat) (A : Option Addr) (l : List α) : Prop :=
  0 < l.length → ∃ b off, A = some ⟨b, off, none⟩ ∧ b < B ∧ ∀ i e, l[i]? = some e → At R w b (off + i * R.size) e
/-- v is a row of these elements, in memory from B on. -/
abbrev Row (w : World) (B : Nat) (v : Value) (l : List α) : Prop := w.ownsRow B R.elem R.size v l.length (R.flat l)
end

section
variable {P : Program} {α : Type} {R : Enc P α} {w w' : World} {B B' : Nat} {A : Option Addr} {l m : List α} {v : Value}
theorem At.below {b o : Nat} {e : α} (h : At R w b o e) (hb : Below B w w') (hB : b < B) : At R w' b o e := fun k hk => (hb.cell (p := ⟨b, _, none⟩) hB).trans (h k hk)
theorem Sl.below (h : Sl R w B A l) (hb : Below B w w') : Sl R w' B A l := fun hl => by
  obtain ⟨b, off, ha, hB, hc⟩ := h hl
  exact ⟨b, off, ha, hB, fun i e he => (hc i e he).below hb hB⟩
theorem Sl.more (h : Sl R w B A l) (hB : B ≤ B') : Sl R w B' A l := fun hl => by
  obtain ⟨b, off, ha, hb, hc⟩ := h hl
  exact ⟨b, off, ha, by omega, hc⟩
theorem Sl.keep (h : Sl R w w.heap.size A l) (hb : Below w.heap.size w w') : Sl R w' w'.heap.size A l := (h.below hb).more hb.size
theorem Sl.nil : Sl R w B A [] := fun h => absurd h (by simp)
theorem Sl.at_ (h : Sl R w B A l) {k : Nat} (hk : k < l.length) : ∃ b off e, A = some ⟨b, off, none⟩ ∧ Hid (l[k]? = some e) ∧ b < B ∧ ∀ w', Below B w w' → At R w' b (off + k * R.size) e := by
  obtain ⟨b, off, ha, hb, hc⟩ := h (by omega)
  exact ⟨b, off, _, ha, Lib.hid (List.getElem?_eq_getElem hk), hb, fun w' hb' => (hc k _ (List.getElem?_eq_getElem hk)).below hb' hb⟩
theorem Sl.take (h : Sl R w B A l) (n : Nat) : Sl R w B A (l.take n) := fun hl => by
  obtain ⟨b, off, ha, hb, hc⟩ := h (by simp at hl; omega)
  refine ⟨b, off, ha, hb, fun i e he => hc i e ?_⟩
  rw [List.getElem?_take] at he
  split at he
  · exact he
  · cases he
theorem Sl.drop {b off : Nat} (h : Sl R w B (some ⟨b, off, none⟩) l) (n : Nat) : Sl R w B (some ⟨b, off + n * R.size, none⟩) (l.drop n) := fun hl => by
  obtain ⟨b', off', ha, hb, hc⟩ := h (by simp at hl; omega)
  cases ha
  refine ⟨b, _, rfl, hb, fun i e he => ?_⟩
  rw [List.getElem?_drop] at he
  have := hc (n + i) e he
  rw [Nat.add_mul, ← Nat.add_assoc] at this
  exact this
/-- Where the cells of such a slice lie. -/
theorem Sl.cells (h : Sl R w B A l) (h0 : 0 < l.length) : ∃ ad, A = some ad ∧ ∀ j u, (R.flat l)[j]? = some u → w.cell? (ad.add j) = some u := by
  obtain ⟨b, off, ha, hb, hc⟩ := h h0
  refine ⟨_, ha, fun j u hu => ?_⟩
  have hj : j < l.length * R.size := by
    have := (List.getElem?_eq_some_iff.1 hu).1
    rw [R.flat_len] at this
    exact this
  have hp := R.pos
  have hd : j / R.size < l.length := Nat.div_lt_of_lt_mul (by rw [Nat.mul_comm]; exact hj)
  have hm : j % R.size < R.size := Nat.mod_lt _ hp
  have hjj : j / R.size * R.size + j % R.size = j := by rw [Nat.mul_comm]; exact Nat.div_add_mod j R.size
  obtain ⟨e, he⟩ : ∃ e, l[j / R.size]? = some e := ⟨_, List.getElem?_eq_getElem hd⟩
  have hf := R.flat_get l (j / R.size) e (j % R.size) he hm
  rw [hjj, hu] at hf
  rw [add_at, hf]
  have := hc _ e he (j % R.size) hm
  rw [Nat.add_assoc, hjj] at this
  exact this
theorem Row.nil (w : World) (B : Nat) : Row R w B (.slice none 0 0) [] := by
  unfold Row
  exact World.ownsRow_nil _ _ _ _
theorem Row.keep (h : Row R w B v l) (hb : Below w.heap.size w w') : Row R w' B v l := h.kept (only_of_below hb none) (by
  cases hv : v.ownBlock with
  | none => exact .inl rfl
  | some g => exact .inr (fun e => by cases e))
theorem Row.far {k : Nat} (h : Row R w B v l) (hg : w.grownBy w' (some k)) (hk : k < B) : Row R w' B v l := h.kept hg (by
  cases hv : v.ownBlock with
  | none => exact .inl rfl
  | some g => exact .inr (fun e => by have := (h.lt g hv).1; cases e; omega))
theorem Row.beside {row : Option Nat} (h : Row R w B v l) (hg : w.grownBy w' row) (hk : ∀ g, v.ownBlock = some g → some g ≠ row) : Row R w' B v l := h.kept hg (by
  cases hv : v.ownBlock with
  | none => exact .inl rfl
  | some g => exact .inr (hk g hv))
theorem Row.base (h : Row R w B v l) (hB : B' ≤ B) : Row R w B' v l := by
  refine ⟨h.1, ?_⟩
  rcases h.2 with h' | ⟨g, cap, cur, h1, h2, r⟩
  · exact .inl h'
  · exact .inr ⟨g, cap, cur, h1, Nat.le_trans hB h2, r⟩
/-- The cells of an element of a row. -/
theorem Row.cell {g n c : Nat} (h : Row R w B (.slice (some ⟨g, 0, none⟩) n c) l) {i : Nat} {e : α} (he : l[i]? = some e) : At R w g (i * R.size) e := fun k hk => by
  have hn : n = l.length := by
    rcases h.2 with ⟨h', _⟩ | ⟨g', cap, cur, h1, _⟩
    · cases h'
    · cases h1; rfl
  subst hn
  have hi := (List.getElem?_eq_some_iff.1 he).1
  have hlt : i * R.size + k < l.length * R.size := by
    have := Nat.mul_le_mul_right R.size (Nat.succ_le_of_lt hi)
    rw [Nat.succ_mul] at this
    omega
  rw [h.cellAt (i * R.size + k) hlt]
  exact R.flat_get l i e k he hk
theorem Row.form (h : Row R w B v l) : ∃ A c, v = .slice A l.length c ∧ l.length ≤ c ∧ c ≤ 9223372036854775807 ∧ Sl R w w.heap.size A l := by
  rcases id h.2 with ⟨rfl, hl⟩ | ⟨g, cap, cur, rfl, h1, h2, h3, h4, _⟩
  · have he : l = [] := List.eq_nil_of_length_eq_zero hl
    subst he
    exact ⟨none, 0, rfl, Nat.le_refl _, by omega, Sl.nil⟩
  · refine ⟨_, cap, rfl, h3, by simp only [maxLen] at h4; omega, fun hl => ⟨g, 0, rfl, (h.lt g rfl).2, fun i e hi => ?_⟩⟩
    rw [Nat.zero_add]
    exact Row.cell h hi
theorem Row.where_ (h : Row R w B v l) : v = .slice none 0 0 ∧ l = [] ∨ ∃ g c, v = .slice (some ⟨g, 0, none⟩) l.length c ∧ B ≤ g ∧ g < w.heap.size ∧ l.length ≤ c ∧ c ≤ 9223372036854775807 := by
  rcases id h.2 with ⟨rfl, hl⟩ | ⟨g, cap, cur, rfl, h1, h2, h3, h4, _⟩
  · exact .inl ⟨rfl, List.eq_nil_of_length_eq_zero hl⟩
  · exact .inr ⟨g, cap, rfl, h1, (h.lt g rfl).2, h3, by simp only [maxLen] at h4; omega⟩
/-- One more element. -/
theorem Row.snoc (h : Row R w B v l) (e : α) (hn : l.length < 100000) (hB : B ≤ w.heap.size) {H : Nat} (hH : w.heap.size = H) (ty : TypeId) :
    ∃ v' w', (Builtin.append_ #[R.slice, R.slice] ty #[v, .slice (some ⟨H, 0, none⟩) 1 1]).run P (w.alloc (.cells (R.enc e).toArray R.elem)) = .ok v' w' ∧ Row R w' B v' (l ++ [e]) ∧ w.grownBy w' v.ownBlock ∧
      (v'.ownBlock = v.ownBlock ∨ v'.ownBlock = some (H + 1)) := by
  obtain ⟨v', w', hr, ho, hg, hb⟩ := append_one (P := P) ty R.und R.info R.zs R.pos h (R.enc e) (R.len e) (R.one e) (by simp only [maxLen]; omega) (by have := R.few; have := Nat.mul_le_mul (show l.length + 1 ≤ 100000 by omega) this; omega) hB hH
  refine ⟨v', w', hr, ?_, hg, hb⟩
  unfold Row
  rw [List.length_append, R.flat_app, R.flat_one]
  exact ho
/-- Many more. -/
theorem Row.app (h : Row R w B v l) (A : Option Addr) (c : Nat) (ha : Sl R w w.heap.size A m) (hl : l.length + m.length ≤ 100000) (hB : B ≤ w.heap.size) (ty : TypeId) :
    ∃ v' w', (Builtin.append_ #[R.slice, R.slice] ty #[v, .slice A m.length c]).run P w = .ok v' w' ∧ Row R w' B v' (l ++ m) ∧ w.grownBy w' v.ownBlock ∧ (v'.ownBlock = v.ownBlock ∨ v'.ownBlock = some w.heap.size) := by
  obtain ⟨v1, w1, h1, h2, h3, h4⟩ := append_all (P := P) ty R.und R.info R.zs R.pos h A m.length c (R.flat m) (R.flat_len m) ha.cells (R.flat_1 m) (by simp only [maxLen]; omega) (by have := R.few; have := Nat.mul_le_mul hl this; omega) hB
  refine ⟨v1, w1, h1, ?_, h3, h4⟩
  unfold Row
  rw [List.length_append, R.flat_app]
  exact h2
/-- A row made of one literal. -/
theorem Row.empty (w : World) : Row R (w.alloc (.cells #[] R.elem)) w.heap.size (.slice (some ⟨w.heap.size, 0, none⟩) 0 0) [] := by
  have h := World.ownsRow_made (base := w.heap.size) (e := R.elem) (size := R.size) w #[] 0 (Nat.le_refl _) (by simp [maxLen]) (by simp)
  exact h
/-- The copy of a list: append([]T{}, l...). -/
theorem copy_run (A : Option Addr) (c : Nat) (ha : Sl R w w.heap.size A l) (hl : l.length ≤ 100000) (ty : TypeId) :
    ∃ v' w', (Builtin.append_ #[R.slice, R.slice] ty #[.slice (some ⟨w.heap.size, 0, none⟩) 0 0, .slice A l.length c]).run P (w.alloc (.cells #[] R.elem)) = .ok v' w' ∧ Row R w' w.heap.size v' l ∧ Below w.heap.size w w' := by
  have h0 : Below w.heap.size w (w.alloc (.cells #[] R.elem)) := (Below.refl _ _).alloc (Nat.le_refl _) _
  obtain ⟨v1, w1, h1, h2, h3, _⟩ := Row.app (Row.empty (R := R) w) A c ((ha.below h0).more h0.size) (by simpa using hl) (by simp) ty
  exact ⟨v1, w1, h1, h2, below_own h0 h3 (Row.empty (R := R) w) h0.size⟩
/-- A literal slice. -/
theorem Sl.lit (w : World) (l : List α) : Sl R (w.alloc (.cells (R.flat l).toArray R.elem)) (w.heap.size + 1) (some ⟨w.heap.size, 0, none⟩) l := fun _ => by
  have hb := Blk.new w R.elem (R.flat l)
  refine ⟨w.heap.size, 0, rfl, Nat.lt_succ_self _, fun i e he k hk => ?_⟩
  rw [Nat.zero_add, hb.cell]
  exact R.flat_get l i e k he hk
theorem below_row {w1 : World} (h : Below B w w1) (hg : w1.grownBy w' v.ownBlock) (ho : Row R w1 B v l) (hw : B ≤ w1.heap.size) : Below B w w' := below_own h hg ho hw
end
end Go.Gr

set_option linter.unusedSimpArgs false
set_option linter.unusedVariables false
set_option maxRecDepth 100000
namespace Go.Gr
open Go Go.RowKit Go.Wd

theorem setAll_get : ∀ (vs : List Value) (xs : List Value) (o k : Nat), o + vs.length ≤ xs.length → (setAll xs o vs)[k]? = if o ≤ k ∧ k < o + vs.length then vs[k - o]? else xs[k]?
  | [], xs, o, k, _ => by
    rw [if_neg (by simp)]
    rfl
  | v :: r, xs, o, k, h => by
    have ih := setAll_get r (xs.set o v) (o + 1) k (by simp at h ⊢; omega)
    show (setAll (xs.set o v) (o + 1) r)[k]? = _
    rw [ih]
    simp only [List.length_cons] at h ⊢
    by_cases h1 : o + 1 ≤ k ∧ k < o + 1 + r.length
    · rw [if_pos h1, if_pos (by omega), show k - o = (k - (o + 1)) + 1 by omega]
      rfl
    · rw [if_neg h1]
      by_cases h2 : k = o
      · subst h2
        rw [if_pos (by omega), List.getElem?_set_self (by omega), Nat.sub_self]
        rfl
      · rw [if_neg (by omega), List.getElem?_set_ne (by omega)]
theorem setAll_len : ∀ (vs : List Value) (xs : List Value) (o : Nat), (setAll xs o vs).length = xs.length
  | [], _, _ => rfl
  | v :: r, xs, o => by
    show (setAll (xs.set o v) (o + 1) r).length = _
    rw [setAll_len r]
    simp
theorem own_setCells {base : Nat} {e : TypeId} {size g n cap : Nat} : ∀ (vs : List Value) (o : Nat) (xs : List Value) (w : World), w.ownsRow base e size (.slice (some ⟨g, 0, none⟩) n cap) n xs →
    (w.setCells g o vs).ownsRow base e size (.slice (some ⟨g, 0, none⟩) n cap) n (setAll xs o vs) ∧ w.grownBy (w.setCells g o vs) (some g)
  | [], _, _, w, h => ⟨h, World.grownBy.refl w _⟩
  | v :: r, o, xs, w, h => by
    have h1 := h.stored o v
    have h2 := own_setCells r (o + 1) (xs.set o v) (w.setCell ⟨g, o, none⟩ v) h1.1
    exact ⟨h2.1, only_trans h1.2 h2.2⟩
section
variable {P : Program} {α : Type} {R : Enc P α} {w w' : World} {B : Nat} {l : List α}
theorem Row.eq_len {g n c : Nat} (h : Row R w B (.slice (some ⟨g, 0, none⟩) n c) l) : n = l.length := by
  rcases h.2 with ⟨h', _⟩ | ⟨g', cap, cur, h1, _⟩
  · cases h'
  · cases h1; rfl
theorem flat_set (R : Enc P α) (l : List α) {i : Nat} (hi : i < l.length) (e : α) : setAll (R.flat l) (i * R.size) (R.enc e) = R.flat (l.set i e) := by
  have hl := R.flat_len l
  have hb : i * R.size + R.size ≤ l.length * R.size := by
    have := Nat.mul_le_mul_right R.size (Nat.succ_le_of_lt hi)
    rw [Nat.succ_mul] at this
    exact this
  have hp := R.pos
  apply List.ext_getElem?
  intro k
  rw [setAll_get _ _ _ _ (by rw [R.len, hl]; exact hb), R.len]
  rcases Nat.lt_or_ge k (l.length * R.size) with hk | hk
  · have hd : k / R.size < l.length := Nat.div_lt_of_lt_mul (by rw [Nat.mul_comm]; exact hk)
    have hm : k % R.size < R.size := Nat.mod_lt _ hp
    have hkk : k / R.size * R.size + k % R.size = k := by rw [Nat.mul_comm]; exact Nat.div_add_mod k R.size
    generalize k / R.size = q at *
    generalize k % R.size = r at *
    subst hkk
    by_cases hq : q = i
    · subst hq
      rw [if_pos (by omega), R.flat_get (l.set q e) q e r (by rw [List.getElem?_set_self hi]) hm]
      congr 1
      omega
    · have hne : ¬ (i * R.size ≤ q * R.size + r ∧ q * R.size + r < i * R.size + R.size) := fun ⟨h1, h2⟩ => by
        rcases Nat.lt_or_gt_of_ne hq with h | h
        · have := Nat.mul_le_mul_right R.size (Nat.succ_le_of_lt h)
          rw [Nat.succ_mul] at this
          omega
        · have := Nat.mul_le_mul_right R.size (Nat.succ_le_of_lt h)
          rw [Nat.succ_mul] at this
          omega
      rw [if_neg hne]
      obtain ⟨x, hx⟩ : ∃ x, l[q]? = some x := ⟨_, List.getElem?_eq_getElem hd⟩
      rw [R.flat_get l q x r hx hm, R.flat_get (l.set i e) q x r (by rw [List.getElem?_set_ne (by omega), hx]) hm]
  · rw [if_neg (by omega), List.getElem?_eq_none (by omega), List.getElem?_eq_none (by rw [R.flat_len, List.length_set]; omega)]
/-- An element put in. -/
theorem Row.put {g n c : Nat} (h : Row R w B (.slice (some ⟨g, 0, none⟩) n c) l) {i : Nat} (hi : i < l.length) (e : α) :
    Row R (w.setCells g (i * R.size) (R.enc e)) B (.slice (some ⟨g, 0, none⟩) n c) (l.set i e) ∧ w.grownBy (w.setCells g (i * R.size) (R.enc e)) (some g) := by
  have hn := Row.eq_len h
  subst hn
  have := own_setCells (R.enc e) (i * R.size) (R.flat l) w h
  rw [flat_set R l hi] at this
  unfold Row
  rw [List.length_set]
  exact this
/-- A store into a row. -/
theorem store_at {ops : Array Oper} {rest : List Oper} {o : Oper} {a : Act} {Q : Exit → Act → World → Prop} (hgd : o.guard = none) (ty : TypeId) (x y : Operand) (ho : o.op = .store ty x y)
    (g i n c off : Nat) (e : α) (hoff : off = i * R.size) (hx : a.eval x = .pointer (some ⟨g, off, none⟩)) (hy : a.eval y = .agg (R.enc e).toArray) (hty : ty = R.elem) (hg : Row R w B (.slice (some ⟨g, 0, none⟩) n c) l) (hi : i < l.length)
    (h : ∀ w', Row R w' B (.slice (some ⟨g, 0, none⟩) n c) (l.set i e) → w.grownBy w' (some g) → wpList P ops Q rest (a.put o.dst undef) w') : wpList P ops Q (o :: rest) a w := by
  subst hoff
  subst hty
  obtain ⟨x', hx'⟩ : ∃ x, l[i]? = some x := ⟨_, List.getElem?_eq_getElem hi⟩
  have hc := Row.cell hg hx'
  obtain ⟨inf, hi1, _, hi3, _⟩ := info_parts R.info
  refine wpList_store_mid hgd R.elem x y ho g (i * R.size) (R.enc e).toArray hx hy (fun j hj => ⟨?_, ?_⟩) ?_ (all_oneCell_toArray (R.one e)) (h _ (Row.put hg hi e).1 (Row.put hg hi e).2)
  · have hj' : j < R.size := by simpa [R.len] using hj
    rw [hc j hj', List.getElem?_eq_getElem (by rw [R.len]; exact hj')]
    rfl
  · have hn := Row.eq_len hg
    subst hn
    exact hg.frozenAt _
  · rw [hi1]
    simp [hi3, R.len]
theorem zeros_one (hz : ∀ v ∈ R.zero.cells.toList, v.oneCell' = true) (n : Nat) : ∀ v ∈ (Builtin.zeroCells R.zero.cells n).toList, v.oneCell' = true := by
  intro v hv
  simp only [Builtin.zeroCells, Array.toList_map, List.mem_map] at hv
  obtain ⟨i, _, rfl⟩ := hv
  have hp := R.pos
  have hs := R.zs
  have hlt : i % R.zero.cells.size < R.zero.cells.size := Nat.mod_lt _ (by omega)
  rw [getElem!_pos R.zero.cells _ hlt]
  exact hz _ (by simp)
/-- The end of a row cleared. -/
theorem Row.clear {g n c m c' : Nat} (h : Row R w B (.slice (some ⟨g, 0, none⟩) n c) l) {i : Nat} (hm : i + m = l.length) (hz : ∀ v ∈ R.zero.cells.toList, v.oneCell' = true) (hzv : ∀ w, (zeroValue R.elem).run P w = .ok R.zero w) (ty : TypeId) :
    ∃ w', (Builtin.clear_ #[R.slice] ty #[.slice (some ⟨g, i * R.size, none⟩) m c']).run P w = .ok (.tuple #[]) w' ∧ w.grownBy w' (some g) ∧ ∀ k e, k < i → l[k]? = some e → At R w' g (k * R.size) e := by
  have hn := Row.eq_len h
  subst hn
  rcases Nat.eq_zero_or_pos m with h0 | h0
  · subst h0
    refine ⟨w, ?_, World.grownBy.refl w _, fun k e _ he => Row.cell h he⟩
    simp [Builtin.clear_, run_underlying R.und]
  · have hlen : (Builtin.zeroCells R.zero.cells m).toList.length = m * R.size := by
      rw [Array.length_toList]
      simp [Builtin.zeroCells, R.zs]
    have hfit : i * R.size + m * R.size = l.length * R.size := by rw [← Nat.add_mul, hm]
    have hst := run_storeCells_cells (P := P) g (i * R.size) (Builtin.zeroCells R.zero.cells m).toList 0 w (fun j hj => by
      rw [hlen] at hj
      rw [Nat.add_zero, h.cellAt _ (by omega), List.getElem?_eq_getElem (by rw [R.flat_len]; omega)]
      rfl) (fun j hj => h.frozenAt _) (zeros_one hz m)
    simp only [Nat.add_zero] at hst
    refine ⟨w.setCells g (i * R.size) (Builtin.zeroCells R.zero.cells m).toList, ?_, (own_setCells _ (i * R.size) (R.flat l) w h).2, fun k e hk he j hj => ?_⟩
    · obtain ⟨m', rfl⟩ : ∃ m', m = m' + 1 := ⟨m - 1, by omega⟩
      simp [Builtin.clear_, run_underlying R.und, hzv, hst]
    · have hlt : k * R.size + R.size ≤ i * R.size := by
        have := Nat.mul_le_mul_right R.size (Nat.succ_le_of_lt hk)
        rw [Nat.succ_mul] at this
        exact this
      rw [World.cell?_setCells_out g _ (i * R.size) w ⟨g, k * R.size + j, none⟩ (fun _ _ => .inl (by show k * R.size + j < i * R.size; omega))]
      exact Row.cell h he j hj
end
end Go.Gr

set_option linter.unusedSimpArgs false
set_option linter.unusedVariables false
set_option maxRecDepth 100000
namespace Go.Proofs.Ytdphfhenjndkkaa
open Go Go.RowKit Go.Sq Go.Wd Go.Arch

structure MailV where
  m : MailS
  es : SlcE
  o : Int × Int × Int × Int × Int
  an : Int × Int × Int
def mailv (x : MailV) : List Value := [.int .i64 x.m.kind, .int .i64 x.m.from_, .int .i64 x.m.to, .int .i64 x.m.stream, .int .i64 x.m.epoch, .int .i64 x.m.view, .int .i64 x.m.base, .int .i64 x.m.len, .int .i64 x.m.stamp,
  .slice x.es.1 x.es.2.1 x.es.2.2, .int .i64 x.o.1, .int .i64 x.o.2.1, .int .i64 x.o.2.2.1, .int .i64 x.o.2.2.2.1, .int .i64 x.o.2.2.2.2, .int .i64 x.an.1, .int .i64 x.an.2.1, .int .i64 x.an.2.2]
theorem mail_len (x : MailV) : (mailv x).length = 18 := rfl
theorem mail_one (x : MailV) : ∀ v ∈ mailv x, v.oneCell' = true := fun v hv => by
  simp only [mailv, List.mem_cons, List.not_mem_nil, or_false] at hv
  rcases hv with rfl | rfl | rfl | rfl | rfl | rfl | rfl | rfl | rfl | rfl | rfl | rfl | rfl | rfl | rfl | rfl | rfl | rfl <;> rfl
def mailE : Gr.Enc Try.prog MailV where
  elem := 43
  slice := 22
  size := 18
  bytes := 160
  zero := .agg #[.int .i64 0, .int .i64 0, .int .i64 0, .int .i64 0, .int .i64 0, .int .i64 0, .int .i64 0, .int .i64 0, .int .i64 0, .slice none 0 0, .int .i64 0, .int .i64 0, .int .i64 0, .int .i64 0, .int .i64 0, .int .i64 0, .int .i64 0, .int .i64 0]
  enc := mailv
  len := mail_len
  one := mail_one
  pos := by omega
  und := Try.underlying22
  info := by kernel_rfl
  zs := rfl
  few := by omega
theorem mail_info : (Try.prog.info? 43).map (·.size) = some 18 := by kernel_rfl
/-- A slice of mail: each piece, and its entries. -/
def Mails (w : World) (B : Nat) (A : Option Addr) (l : List MailV) : Prop := Gr.Sl mailE w B A l ∧ ∀ x ∈ l, LogAt w B x.es x.m.ents
section
variable {w w' : World} {B B' : Nat} {A : Option Addr} {l : List MailV}
theorem Mails.below (h : Mails w B A l) (hb : Below B w w') : Mails w' B A l := ⟨h.1.below hb, fun x hx => (h.2 x hx).below hb⟩
theorem Mails.more (h : Mails w B A l) (hB : B ≤ B') : Mails w B' A l := ⟨h.1.more hB, fun x hx => (h.2 x hx).more hB⟩
theorem Mails.keep (h : Mails w w.heap.size A l) (hb : Below w.heap.size w w') : Mails w' w'.heap.size A l := (h.below hb).more hb.size
theorem Mails.nil : Mails w B A [] := ⟨Gr.Sl.nil, by simp⟩
/-- The k-th piece of mail. -/
theorem Mails.at_ (h : Mails w B A l) {k : Nat} (hk : k < l.length) : ∃ b off x, A = some ⟨b, off, none⟩ ∧ Hid (l[k]? = some x) ∧ b < B ∧ (∀ w', Below B w w' → ∀ j, j < 18 → w'.cell? ⟨b, off + k * 18 + j, none⟩ = (mailv x)[j]?) ∧ Hid (LogAt w B x.es x.m.ents) := by
  obtain ⟨b, off, e, ha, he, hb, hc⟩ := h.1.at_ hk
  exact ⟨b, off, e, ha, he, hb, fun w' hw j hj => hc w' hw j hj, Lib.hid (h.2 e (List.mem_of_getElem? he.out))⟩
end
end Go.Proofs.Ytdphfhenjndkkaa

set_option linter.unusedSimpArgs false
set_option linter.unusedVariables false
set_option maxRecDepth 100000
namespace Go.Wd
open Go Go.RowKit
theorem exec_load_range {P : Program} {w : World} {o : Oper} {a : Act} (ty : TypeId) (x : Operand) (ho : o.op = .load ty x) (g i : Nat) (hx : a.eval x = .pointer (some ⟨g, i, none⟩))
    (cs : List Value) (hr : w.rangeAt g i cs) (d : TypeDesc) (hu : P.underlying ty = some d) (hd : d.isRow = true) (hi : (P.info? ty).map (·.size) = some cs.length) :
    (execOp a.eval o).run P w = .ok (.value (.agg cs.toArray)) w := by
  unfold execOp
  simp only [ho, hx, Instr.loadAt, Instr.sureAddr, Sem.run_bind, Sem.run_pure, Result.andThen_ok, run_loadVar_mid w g i ty cs d hr hu hd hi]
theorem wpList_load_range_g {P : Program} {w : World} {ops : Array Oper} {rest : List Oper} {o : Oper} {a : Act} {Q : Exit → Act → World → Prop} (ty : TypeId) (x : Operand) (ho : o.op = .load ty x)
    (hw : Region.wanted o (yielded ops a.tmps) = true) (g i : Nat) (hx : a.eval x = .pointer (some ⟨g, i, none⟩)) (cs : List Value) (d : TypeDesc) (hr : w.rangeAt g i cs)
    (hu : P.underlying ty = some d) (hd : d.isRow = true) (hi : (P.info? ty).map (·.size) = some cs.length)
    (h : wpList P ops Q rest (a.put o.dst (.agg cs.toArray)) w) : wpList P ops Q (o :: rest) a w :=
  wpList_wanted hw fun _ hK => wp_load_mid ty x ho g i hx cs d hr hu hd hi (hK _ _ h)
end Go.Wd
namespace Go.Proofs.Ytdphfhenjndkkaa
open Go Go.RowKit Go.Sq Go.Wd Go.Arch

/-- The k-th piece, as a range of cells. -/
theorem Mails.range {w : World} {B : Nat} {A : Option Addr} {l : List MailV} (h : Mails w B A l) {k : Nat} (hk : k < l.length) : ∃ b off x, A = some ⟨b, off, none⟩ ∧ Hid (l[k]? = some x) ∧ (∀ w', Below B w w' → w'.rangeAt b (off + k * 18) (mailv x)) ∧ Hid (LogAt w B x.es x.m.ents) := by
  obtain ⟨b, off, x, ha, hx, _, hc, hl⟩ := h.at_ hk
  refine ⟨b, off, x, ha, hx, fun w' hb j v hv => ?_, hl⟩
  have hj : j < 18 := (List.getElem?_eq_some_iff.1 hv).1
  rw [hc w' hb j hj]
  exact hv
end Go.Proofs.Ytdphfhenjndkkaa

set_option linter.unusedSimpArgs false
set_option linter.unusedVariables false
set_option maxRecDepth 100000
namespace Go.Wd
/-- A letter in the world's place, in the midst of a list of operations. -/
theorem abs_list {P : Program} {ops : Array Oper} {rest : List Oper} {a : Act} {Q : Exit → Act → World → Prop} {w : World} (J : World → Prop) (hJ : J w) (h : ∀ w', J w' → wpList P ops Q rest a w') : wpList P ops Q rest a w := h w hJ
end Go.Wd
namespace Go.Proofs.Ytdphfhenjndkkaa
open Go Go.RowKit Go.Sq Go.Wd Go.Arch Go.Im

/-- Mail back. -/
def backM (m : MailS) (k ep : Int) : MailS := ⟨k, m.to, m.from_, m.stream, ep, 0, 0, 0, 0, []⟩
def refM (r : RegS) (m : MailS) : MailS := backM m 3 r.prom
def promM (r : RegS) (m : MailS) : MailS := ⟨2, m.to, m.from_, m.stream, m.epoch, r.view, 0, r.com, m.stamp, r.log⟩
def gapM (r : RegS) (m : MailS) : MailS := ⟨6, m.to, m.from_, m.stream, m.epoch, 0, 0, if m.epoch = r.view then (r.log.length : Int) else 0, 0, []⟩
def ackM (q : RegS) (m : MailS) : MailS := ⟨5, m.to, m.from_, m.stream, m.epoch, 0, 0, q.log.length, m.stamp, []⟩
def recP (m : MailS) : RecS := ⟨1, m.stream, m.epoch, 0, 0, 0, []⟩
def recC (q : RegS) (m : MailS) : RecS := ⟨3, m.stream, 0, 0, 0, min m.len q.log.length, []⟩
def recV (m : MailS) (f : Int) (l : List Ent) : RecS := ⟨2, m.stream, m.epoch, 0, f, 0, l⟩
/-- The entries that a site has behind an owner's. -/
def joinM (r : RegS) (m : MailS) : List Ent := r.log.take m.base.toNat ++ m.ents
/-- What becomes of a register by an owner's entries, and by which records. -/
def grownS (r : RegS) (m : MailS) : Option (List RecS × RegS) :=
  if m.epoch = r.view then
    if joinM r m <+: r.log then some ([], r)
    else if r.log <+: joinM r m then (applyR r (recV m r.log.length ((joinM r m).drop r.log.length))).map fun q => ([recV m r.log.length ((joinM r m).drop r.log.length)], q)
    else none
  else (applyR r (recV m m.base m.ents)).map fun q => ([recV m m.base m.ents], q)
/-- Records, mail, and what becomes of the book: 0 nothing, 1 a grant, 2 a release. -/
structure Said where
  recs : List RecS
  back : List MailS
  act : Nat
def nothing : Said := ⟨[], [], 0⟩
def prepS (r : RegS) (may : Bool) (m : MailS) : Said := if may = true ∧ r.prom < m.epoch then ⟨[recP m], [promM r m], 1⟩ else ⟨[], [refM r m], 0⟩
def comS (q : RegS) (m : MailS) : List RecS := if q.com < min m.len q.log.length then [recC q m] else []
def layS (r : RegS) (m : MailS) : Said :=
  if m.epoch < r.prom then ⟨[], [refM r m], 0⟩
  else if (r.view < m.epoch ∧ 0 < m.base) ∨ (r.log.length : Int) < m.base then ⟨[], [gapM r m], 0⟩
  else match grownS r m with
    | none => nothing
    | some (l, q) => ⟨l ++ comS q m, [ackM q m], 1⟩
def mailOk (r : RegS) (m : MailS) : Prop := mayR r = true ∧ 0 ≤ m.stream ∧ m.stream < 4 ∧ 0 ≤ m.base ∧ 1 ≤ m.epoch ∧ m.epoch ≤ 1048576
instance (r : RegS) (m : MailS) : Decidable (mailOk r m) := by unfold mailOk; infer_instance
def takeS (r : RegS) (may : Bool) (m : MailS) : Said :=
  if mailOk r m then (if m.kind = 1 then prepS r may m else if m.kind = 4 then layS r m else if m.kind = 9 then ⟨[], [], 2⟩ else nothing) else nothing
/-- The book behind it. -/
def bookG (act : Nat) (G : Int → Option (Int × Int)) (s ep now : Int) : Int → Option (Int × Int) := if act = 1 then grantL G s ep now else if act = 2 then relL G s ep else G
def bookE (act : Nat) (E U : Nat → Int) (s ep : Int) : Nat → Int := if act = 1 then rgrantE E U s ep else E
def bookU (act : Nat) (E U : Nat → Int) (s ep now : Int) : Nat → Int := if act = 1 then rgrantU E U s ep now else if act = 2 then rrelU E U s ep else U
theorem alike_book {G : Int → Option (Int × Int)} {E U : Nat → Int} {s ep now : Int} (h : Alike G E U) (h0 : 0 ≤ now) (act : Nat) : Alike (bookG act G s ep now) (bookE act E U s ep) (bookU act E U s ep now) := by
  unfold bookG bookE bookU
  by_cases h1 : act = 1
  · rw [if_pos h1, if_pos h1, if_pos h1]; exact alike_grant h h0
  · rw [if_neg h1, if_neg h1, if_neg h1]
    by_cases h2 : act = 2
    · rw [if_pos h2, if_pos h2]; exact alike_release h
    · rw [if_neg h2, if_neg h2]; exact h

/-! ### Rows of records -/
theorem rcv_one' (x : RecV) : ∀ v ∈ rcv x, v.oneCell' = true := by simp [rcv, Value.oneCell']
def recE : Gr.Enc Try.prog RecV where
  elem := 53
  slice := 44
  size := 8
  bytes := 96
  zero := .agg #[.int .i64 0, .int .i64 0, .int .i64 0, .int .i64 0, .int .i64 0, .int .i64 0, .slice none 0 0, .slice none 0 0]
  enc := rcv
  len := fun _ => rfl
  one := rcv_one'
  pos := by omega
  und := Try.underlying44
  info := by kernel_rfl
  zs := rfl
  few := by omega
/-- A slice of records: each one, and its entries. -/
def Rcs (w : World) (B : Nat) (A : Option Addr) (l : List RecV) : Prop := Gr.Sl recE w B A l ∧ ∀ x ∈ l, LogAt w B x.es x.ents
section
variable {w w' : World} {B B' : Nat} {A : Option Addr} {l : List RecV}
theorem Rcs.below (h : Rcs w B A l) (hb : Below B w w') : Rcs w' B A l := ⟨h.1.below hb, fun x hx => (h.2 x hx).below hb⟩
theorem Rcs.more (h : Rcs w B A l) (hB : B ≤ B') : Rcs w B' A l := ⟨h.1.more hB, fun x hx => (h.2 x hx).more hB⟩
theorem Rcs.keep (h : Rcs w w.heap.size A l) (hb : Below w.heap.size w w') : Rcs w' w'.heap.size A l := (h.below hb).more hb.size
theorem Rcs.nil : Rcs w B A [] := ⟨Gr.Sl.nil, by simp⟩
theorem Rcs.range (h : Rcs w B A l) {k : Nat} (hk : k < l.length) : ∃ b off x, A = some ⟨b, off, none⟩ ∧ Hid (l[k]? = some x) ∧ (∀ w', Below B w w' → w'.rangeAt b (off + k * 8) (rcv x)) ∧ Hid (LogAt w B x.es x.ents) := by
  obtain ⟨b, off, e, ha, he, _, hc⟩ := h.1.at_ hk
  refine ⟨b, off, e, ha, he, fun w' hb j v hv => ?_, Lib.hid (h.2 e (List.mem_of_getElem? he.out))⟩
  have hj : j < 8 := (List.getElem?_eq_some_iff.1 hv).1
  exact (hc w' hb j hj).trans hv
end

/-- What is handed back: records and mail. -/
def Answer (S : Said) (e : Ending) (w' : World) : Prop :=
  ∃ (A1 : Option Addr) (c1 : Nat) (A2 : Option Addr) (c2 : Nat) (xs : List RecV) (ys : List MailV), e = .returned (.tuple #[.slice A1 xs.length c1, .slice A2 ys.length c2]) ∧ Rcs w' w'.heap.size A1 xs ∧ Mails w' w'.heap.size A2 ys ∧
    xs.map RecV.s = S.recs ∧ ys.map MailV.m = S.back ∧ (∀ x ∈ xs, x.fs = (none, 0, 0)) ∧ ∀ y ∈ ys, y.o = (0, 0, 0, 0, 0) ∧ y.an = (0, 0, 0)
theorem Answer.nothing {w : World} {act : Nat} : Answer ⟨[], [], act⟩ (.returned (.tuple #[.slice none 0 0, .slice none 0 0])) w :=
  ⟨none, 0, none, 0, [], [], rfl, Rcs.nil, Mails.nil, rfl, rfl, by simp, by simp⟩

/-! ### A map's block turns -/
theorem Bk.map {w : World} {b m n : Nat} {gr : Int} {G : Int → Option (Int × Int)} (h : Bk w b m n gr G) : ∃ es clock, w.heap[m]? = some (.map es clock) := by
  obtain ⟨h1, _, _, D, ⟨es, clock, hb, _⟩, _⟩ := h
  exact ⟨es, clock, hb⟩
theorem Bk.notBlk {w : World} {b m n g : Nat} {gr : Int} {G : Int → Option (Int × Int)} {T : TypeId} {cs : List Value} (h : Bk w b m n gr G) (hg : Blk w g T cs) : g ≠ m := by
  rintro rfl
  obtain ⟨es, clock, hb⟩ := h.map
  unfold Blk at hg
  rw [hb] at hg
  cases hg
theorem LogAt.turned {w w' : World} {b m n : Nat} {gr : Int} {G : Int → Option (Int × Int)} {sl : SlcE} {l : List Ent} (h : LogAt w w.heap.size sl l) (hB : Bk w b m n gr G) (hK : Kept w w' (some m) none) : LogAt w' w'.heap.size sl l := by
  refine ⟨h.1, h.2.1, h.2.2.1, fun hl => ?_⟩
  obtain ⟨g, off, ha, hb, hc⟩ := h.2.2.2 hl
  obtain ⟨es, clock, hm⟩ := hB.map
  have hne : g ≠ m := by
    rintro rfl
    obtain ⟨e, he⟩ : ∃ e, l[0]? = some e := ⟨_, List.getElem?_eq_getElem hl⟩
    obtain ⟨c0, _⟩ := hc 0 e he
    simp [World.cell?, hm] at c0
  have hk := hK.2.2.2.2 g hb (fun e => hne (Option.some.inj e)) (by simp)
  refine ⟨g, off, ha, Nat.lt_of_lt_of_le hb hK.2.2.2.1, fun i e he => ?_⟩
  obtain ⟨c0, c1, c2, c3, c4, c5⟩ := hc i e he
  have key : ∀ o v, w.cell? ⟨g, o, none⟩ = some v → w'.cell? ⟨g, o, none⟩ = some v := fun o v hv => (World.cell?_of_block (a := ⟨g, o, none⟩) hk).trans hv
  exact ⟨key _ _ c0, key _ _ c1, key _ _ c2, key _ _ c3, key _ _ c4, key _ _ c5⟩
end Go.Proofs.Ytdphfhenjndkkaa

set_option linter.unusedSimpArgs false
set_option linter.unusedVariables false
set_option maxRecDepth 100000
namespace Go.Proofs.Ytdphfhenjndkkaa
open Go Go.RowKit Go.Sq Go.Wd Go.Arch

def backV (m : MailS) (k ep : Int) : MailV := ⟨backM m k ep, (none, 0, 0), (0, 0, 0, 0, 0), (0, 0, 0)⟩
def backV0 : MailV := ⟨⟨0, 0, 0, 0, 0, 0, 0, 0, 0, []⟩, (none, 0, 0), (0, 0, 0, 0, 0), (0, 0, 0)⟩

set_option maxHeartbeats 2000000 in
theorem back_any (x : MailV) (k ep : Int) (w : World) : Calls Try.prog 67 #[.agg (mailv x).toArray, .int .i64 k, .int .i64 ep] w fun e w' => e = .returned (.agg (mailv (backV x.m k ep)).toArray) ∧ Below w.heap.size w w' := by
  have hz : Below w.heap.size w ((w.alloc (.cells (mailv x).toArray 43)).alloc (.cells (mailv (backV0)).toArray 43)) := ((Below.refl _ _).alloc (Nat.le_refl _) _).alloc (by simp) _
  have B0 : Blk ((w.alloc (.cells (mailv x).toArray 43)).alloc (.cells (mailv (backV0)).toArray 43)) w.heap.size 43 (mailv x) := (Blk.new w _ _).alloc _
  have B1 : Blk ((w.alloc (.cells (mailv x).toArray 43)).alloc (.cells (mailv (backV0)).toArray 43)) (w.heap.size + 1) 43 (mailv (backV0)) := Blk.newAt _ _ _ (by simp)
  have HH := Lib.hid (And.intro hz (And.intro B0 B1))
  clear hz B0 B1
  go_enter Try.func67, Try.ntmps67
  go_wp2_with ((with_reducible refine at_list ?_); (with_reducible refine cut_at 8 rfl ?_))
  refine Cut.go ?_
  refine abs_list (fun W => Below w.heap.size w W ∧ Blk W w.heap.size 43 (mailv x) ∧ Blk W (w.heap.size + 1) 43 (mailv backV0)) HH.out ?_
  clear HH
  intro w1 hh
  have HH := Lib.hid hh
  have f1 : w1.cell? ⟨w.heap.size, 1, none⟩ = some (.int .i64 x.m.from_) := hh.2.1.cell 1
  have f2 : w1.cell? ⟨w.heap.size, 2, none⟩ = some (.int .i64 x.m.to) := hh.2.1.cell 2
  have f3 : w1.cell? ⟨w.heap.size, 3, none⟩ = some (.int .i64 x.m.stream) := hh.2.1.cell 3
  clear hh
  go_wp2_with ((with_reducible refine at_list ?_); (refine wpList_store_blk rfl 43 _ _ rfl _ (mailv (backV x.m k ep)) rfl rfl _ _ (HH.out.2.2) mail_info rfl (mail_one _) ?_; intro w8 B8 hb8 hk8))
  have hw8 := HH.out.1.trans (hb8 _ (by omega))
  apply ret_of
  · exact results_blk rfl _ _ _ _ _ _ rfl B8 Try.underlying43 rfl mail_info
  · exact ⟨rfl, rfl, hw8⟩

set_option maxHeartbeats 2000000 in
theorem rback_any (x : MailV) (k ep : Int) (w : World) : Calls Try.prog 43 #[.agg (mailv x).toArray, .int .i64 k, .int .i64 ep] w fun e w' => e = .returned (.agg (mailv (backV x.m k ep)).toArray) ∧ Below w.heap.size w w' := by
  have hz : Below w.heap.size w ((w.alloc (.cells (mailv x).toArray 43)).alloc (.cells (mailv (backV0)).toArray 43)) := ((Below.refl _ _).alloc (Nat.le_refl _) _).alloc (by simp) _
  have B0 : Blk ((w.alloc (.cells (mailv x).toArray 43)).alloc (.cells (mailv (backV0)).toArray 43)) w.heap.size 43 (mailv x) := (Blk.new w _ _).alloc _
  have B1 : Blk ((w.alloc (.cells (mailv x).toArray 43)).alloc (.cells (mailv (backV0)).toArray 43)) (w.heap.size + 1) 43 (mailv (backV0)) := Blk.newAt _ _ _ (by simp)
  have HH := Lib.hid (And.intro hz (And.intro B0 B1))
  clear hz B0 B1
  go_enter Try.func43, Try.ntmps43
  go_wp2_with ((with_reducible refine at_list ?_); (with_reducible refine cut_at 8 rfl ?_))
  refine Cut.go ?_
  refine abs_list (fun W => Below w.heap.size w W ∧ Blk W w.heap.size 43 (mailv x) ∧ Blk W (w.heap.size + 1) 43 (mailv backV0)) HH.out ?_
  clear HH
  intro w1 hh
  have HH := Lib.hid hh
  have f1 : w1.cell? ⟨w.heap.size, 1, none⟩ = some (.int .i64 x.m.from_) := hh.2.1.cell 1
  have f2 : w1.cell? ⟨w.heap.size, 2, none⟩ = some (.int .i64 x.m.to) := hh.2.1.cell 2
  have f3 : w1.cell? ⟨w.heap.size, 3, none⟩ = some (.int .i64 x.m.stream) := hh.2.1.cell 3
  clear hh
  go_wp2_with ((with_reducible refine at_list ?_); (refine wpList_store_blk rfl 43 _ _ rfl _ (mailv (backV x.m k ep)) rfl rfl _ _ (HH.out.2.2) mail_info rfl (mail_one _) ?_; intro w8 B8 hb8 hk8))
  have hw8 := HH.out.1.trans (hb8 _ (by omega))
  apply ret_of
  · exact results_blk rfl _ _ _ _ _ _ rfl B8 Try.underlying43 rfl mail_info
  · exact ⟨rfl, rfl, hw8⟩

theorem mails_lit (w : World) (x : MailV) (h : LogAt w w.heap.size x.es x.m.ents) : Mails (w.alloc (.cells (mailv x).toArray 43)) (w.alloc (.cells (mailv x).toArray 43)).heap.size (some ⟨w.heap.size, 0, none⟩) [x] := by
  have hs := Gr.Sl.lit (R := mailE) w [x]
  rw [Gr.Enc.flat_one] at hs
  refine ⟨hs.more (by simp), fun y hy => ?_⟩
  obtain rfl : y = x := by simpa using hy
  exact h.keep ((Below.refl _ _).alloc (Nat.le_refl _) _)
theorem recs_lit (w : World) (x : RecV) (h : LogAt w w.heap.size x.es x.ents) : Rcs (w.alloc (.cells (rcv x).toArray 53)) (w.alloc (.cells (rcv x).toArray 53)).heap.size (some ⟨w.heap.size, 0, none⟩) [x] := by
  have hs := Gr.Sl.lit (R := recE) w [x]
  rw [Gr.Enc.flat_one] at hs
  refine ⟨hs.more (by simp), fun y hy => ?_⟩
  obtain rfl : y = x := by simpa using hy
  exact h.keep ((Below.refl _ _).alloc (Nat.le_refl _) _)
theorem mails_at (w : World) (x : MailV) {k : Nat} (hk : w.heap.size = k) (h : LogAt w w.heap.size x.es x.m.ents) : Mails (w.alloc (.cells (mailv x).toArray 43)) (w.alloc (.cells (mailv x).toArray 43)).heap.size (some ⟨k, 0, none⟩) [x] := by
  subst hk
  exact mails_lit w x h
theorem recs_at (w : World) (x : RecV) {k : Nat} (hk : w.heap.size = k) (h : LogAt w w.heap.size x.es x.ents) : Rcs (w.alloc (.cells (rcv x).toArray 53)) (w.alloc (.cells (rcv x).toArray 53)).heap.size (some ⟨k, 0, none⟩) [x] := by
  subst hk
  exact recs_lit w x h
theorem clone_sl (l : List Ent) (sl : SlcE) (w : World) (hl : LogAt w w.heap.size sl l) (h2 : l.length ≤ 2000) :
    Calls Try.prog 49 #[.slice sl.1 sl.2.1 sl.2.2] w fun e w' => ∃ s : SlcE, e = .returned (.slice s.1 s.2.1 s.2.2) ∧ LogAt w' w'.heap.size s l ∧ (∀ b o, s.1 = some ⟨b, o, none⟩ → w.heap.size ≤ b ∧ b < w'.heap.size) ∧ Below w.heap.size w w' := by
  obtain ⟨A, n, c⟩ := sl
  obtain rfl : n = l.length := hl.1
  refine (clone_any l A c w hl h2).mono ?_
  rintro e w' ⟨v, rfl, hR, hb⟩
  obtain ⟨s, rfl, hL⟩ := hR.log
  refine ⟨s, rfl, hL, fun b o ho => ?_, hb⟩
  obtain ⟨s1, s2, s3⟩ := s
  dsimp only at ho
  subst ho
  rcases id hR.2 with ⟨h', _⟩ | ⟨g, cap, cur, h', hg, _⟩
  · injection h' with e1
    cases e1
  · injection h' with e1
    cases e1
    exact ⟨hg, (hR.lt _ rfl).2⟩
theorem answer12 (w : World) (x : RecV) (y : MailV) (S : Said) (hx : LogAt w w.heap.size x.es x.ents) (hy : LogAt w w.heap.size y.es y.m.ents) (h1 : S.recs = [x.s]) (h2 : S.back = [y.m]) (h3 : x.fs = (none, 0, 0)) (h4 : y.o = (0, 0, 0, 0, 0) ∧ y.an = (0, 0, 0)) :
    Answer S (.returned (.tuple #[.slice (some ⟨w.heap.size, 0, none⟩) 1 1, .slice (some ⟨w.heap.size + 1, 0, none⟩) 1 1])) ((w.alloc (.cells (rcv x).toArray 53)).alloc (.cells (mailv y).toArray 43)) := by
  have hr := (recs_lit w x hx).keep ((Below.refl _ _).alloc (Nat.le_refl _) (.cells (mailv y).toArray 43))
  have hm := mails_at (w.alloc (.cells (rcv x).toArray 53)) y (k := w.heap.size + 1) (by simp) (hy.keep ((Below.refl _ _).alloc (Nat.le_refl _) _))
  exact ⟨_, 1, _, 1, [x], [y], rfl, hr, hm, h1.symm, h2.symm, fun z hz => by rw [List.mem_singleton.1 hz]; exact h3, fun z hz => by rw [List.mem_singleton.1 hz]; exact h4⟩
theorem answer21 (w : World) (x : RecV) (y : MailV) (S : Said) (hx : LogAt w w.heap.size x.es x.ents) (hy : LogAt w w.heap.size y.es y.m.ents) (h1 : S.recs = [x.s]) (h2 : S.back = [y.m]) (h3 : x.fs = (none, 0, 0)) (h4 : y.o = (0, 0, 0, 0, 0) ∧ y.an = (0, 0, 0)) :
    Answer S (.returned (.tuple #[.slice (some ⟨w.heap.size + 1, 0, none⟩) 1 1, .slice (some ⟨w.heap.size, 0, none⟩) 1 1])) ((w.alloc (.cells (mailv y).toArray 43)).alloc (.cells (rcv x).toArray 53)) := by
  have hm := (mails_lit w y hy).keep ((Below.refl _ _).alloc (Nat.le_refl _) (.cells (rcv x).toArray 53))
  have hr := recs_at (w.alloc (.cells (mailv y).toArray 43)) x (k := w.heap.size + 1) (by simp) (hx.keep ((Below.refl _ _).alloc (Nat.le_refl _) _))
  exact ⟨_, 1, _, 1, [x], [y], rfl, hr, hm, h1.symm, h2.symm, fun z hz => by rw [List.mem_singleton.1 hz]; exact h3, fun z hz => by rw [List.mem_singleton.1 hz]; exact h4⟩
/-- A block that is being filled, and a log beside it. -/
def PrS (w0 : World) (g : Nat) (T : TypeId) (cs : List Value) (s : SlcE) (l : List Ent) (W : World) : Prop := Below w0.heap.size w0 W ∧ Blk W g T cs ∧ LogAt W W.heap.size s l ∧ w0.heap.size ≤ g ∧ ∀ b o, s.1 = some ⟨b, o, none⟩ → b ≠ g
theorem PrS.set {w0 W : World} {g : Nat} {T : TypeId} {cs : List Value} {s : SlcE} {l : List Ent} (h : PrS w0 g T cs s l W) (i : Nat) (v : Value) : PrS w0 g T (cs.set i v) s l (W.setCell ⟨g, i, none⟩ v) := by
  obtain ⟨h1, h2, h3, h4, h5⟩ := h
  have hg := only_setCell (World.grownBy.refl W (some g)) (p := ⟨g, i, none⟩) (.inl rfl) v
  exact ⟨h1.trans (below_grown hg h4 h1.size), h2.set i v, h3.apart (Nat.le_refl _) hg h5, h4, h5⟩
theorem PrS.keep {w0 W W' : World} {g : Nat} {T : TypeId} {cs : List Value} {s : SlcE} {l : List Ent} (h : PrS w0 g T cs s l W) (hb : Below W.heap.size W W') : PrS w0 g T cs s l W' := by
  obtain ⟨h1, h2, h3, h4, h5⟩ := h
  exact ⟨below_trans h1 hb h1.size, h2.keep hb, h3.keep hb, h4, h5⟩

set_option maxHeartbeats 2000000 in
theorem refuse_any (r : RegS) (sl : SlcE) (x : MailV) (w : World) : Calls Try.prog 65 #[.agg (rgv r sl).toArray, .agg (mailv x).toArray] w fun e w' => ∃ A, e = .returned (.slice A 1 1) ∧ Mails w' w'.heap.size A [backV x.m 3 r.prom] ∧ Below w.heap.size w w' := by
  have hz : Below w.heap.size w ((w.alloc (.cells (rgv r sl).toArray 37)).alloc (.cells (mailv x).toArray 43)) := ((Below.refl _ _).alloc (Nat.le_refl _) _).alloc (by simp) _
  have B0 : Blk ((w.alloc (.cells (rgv r sl).toArray 37)).alloc (.cells (mailv x).toArray 43)) w.heap.size 37 (rgv r sl) := (Blk.new w _ _).alloc _
  have B1 : Blk ((w.alloc (.cells (rgv r sl).toArray 37)).alloc (.cells (mailv x).toArray 43)) (w.heap.size + 1) 43 (mailv x) := Blk.newAt _ _ _ (by simp)
  have f0 : ((w.alloc (.cells (rgv r sl).toArray 37)).alloc (.cells (mailv x).toArray 43)).cell? ⟨w.heap.size, 0, none⟩ = some (.int .i64 r.prom) := B0.cell 0
  have HH := Lib.hid (And.intro hz B1)
  clear hz B0 B1
  go_enter Try.func65, Try.ntmps65
  go_wp2_with ((with_reducible refine at_list ?_); first | refine wpList_load_blk rfl 43 _ rfl _ rfl _ _ _ (HH.out.2) Try.underlying43 rfl mail_info ?_)
  refine (back_any x 3 r.prom _).mono ?_
  rintro e w1 ⟨rfl, hb⟩
  have hw1 := below_trans HH.out.1 hb HH.out.1.size
  have hO := mails_lit w1 (backV x.m 3 r.prom) LogAt.nil
  have H1 := Lib.hid (And.intro (hw1.alloc hw1.size (.cells (mailv (backV x.m 3 r.prom)).toArray 43)) hO)
  clear hw1 hb HH hO
  generalize hy : backV x.m 3 r.prom = y at H1 ⊢
  have HY := Lib.hid hy
  clear hy
  unfold mailv at H1 ⊢
  go_wp2_with fail
  go_ret
  exact ⟨_, rfl, by rw [HY.out]; exact H1.out.2, H1.out.1⟩
end Go.Proofs.Ytdphfhenjndkkaa

set_option linter.unusedSimpArgs false
set_option linter.unusedVariables false
set_option maxRecDepth 100000
namespace Go.Proofs.Ytdphfhenjndkkaa
open Go Go.RowKit Go.Sq Go.Wd Go.Arch

theorem zeros_row (w : World) (k G : Nat) (hk : k ≤ G) (hG : G ≤ maxLen) : Row (w.drew.alloc (.cells (Builtin.zeroCells (Value.agg #[.int .i64 0, .int .i64 0, .int .i64 0, .int .i64 0, .int .i64 0, .int .i64 0]).cells k ++ Builtin.zeroCells (Value.agg #[.int .i64 0, .int .i64 0, .int .i64 0, .int .i64 0, .int .i64 0, .int .i64 0]).cells (G - k)) 64)) w.heap.size (.slice (some ⟨w.heap.size, 0, none⟩) 0 G) [] := by
  refine ⟨rfl, .inr ⟨w.heap.size, G, Builtin.zeroCells (Value.agg #[.int .i64 0, .int .i64 0, .int .i64 0, .int .i64 0, .int .i64 0, .int .i64 0]).cells k ++ Builtin.zeroCells (Value.agg #[.int .i64 0, .int .i64 0, .int .i64 0, .int .i64 0, .int .i64 0, .int .i64 0]).cells (G - k), rfl, Nat.le_refl _, ?_, Nat.zero_le _, hG, ?_, rfl⟩⟩
  · exact Array.getElem?_push_size
  · rw [Array.size_append, size_zeroCells, size_zeroCells, ← Nat.add_mul, show k + (G - k) = G from by omega]
    rfl
set_option maxHeartbeats 2000000 in
theorem growE_any (k : Nat) (hk : k ≤ 100000) (w : World) : Calls Try.prog 99 #[.slice none 0 0, .int .i64 (k : Int)] w fun e w' => ∃ v, e = .returned v ∧ Row w' w.heap.size v [] ∧ Below w.heap.size w w' := by
  by_cases h0 : k = 0
  · subst h0
    have hw := Below.refl w.heap.size w
    go_enter Try.func99, Try.ntmps99
    go_wp2_with fail
    go_ret
    exact ⟨_, rfl, Row.nil _ _, hw⟩
  · have k0 : (0 : Int) < (k : Int) := by omega
    have kn : ¬ (k : Int) < 0 := by omega
    have kw : IntKind.i64.wrap (k : Int) = (k : Int) := IntWalk.i64_in _ (by omega)
    obtain ⟨i, hi, hz, hsz, hbt⟩ : ∃ i, Try.prog.info? 64 = some i ∧ i.zero = some (.agg #[.int .i64 0, .int .i64 0, .int .i64 0, .int .i64 0, .int .i64 0, .int .i64 0]) ∧ i.size = 6 ∧ i.bytes = 48 := by
      have h := ent_info
      cases hx : Try.prog.info? 64 with
      | none => rw [hx] at h; cases h
      | some i => rw [hx] at h; simp only [Option.map_some, Option.some.injEq, Prod.mk.injEq] at h; exact ⟨i, rfl, h.1, h.2.1, h.2.2⟩
    have hr := fun ty => Lib.run_append_nil_zeros (P := Try.prog) w 35 3 ty 64 i _ .i64 .i64 Try.underlying35 Try.underlying3 hi hz k (by omega) (by omega) (by omega) (by rw [hbt]; omega)
    have hG1 := grownCap_ge w k 0 64
    have hG2 := grownCap_le_maxLen w k 0 64 (by unfold maxLen; omega)
    generalize grownCap w k 0 64 = G at hr hG1 hG2
    have hR := zeros_row w k G hG1 hG2
    have hb : Below w.heap.size w (w.drew.alloc (.cells (Builtin.zeroCells (Value.agg #[.int .i64 0, .int .i64 0, .int .i64 0, .int .i64 0, .int .i64 0, .int .i64 0]).cells k ++ Builtin.zeroCells (Value.agg #[.int .i64 0, .int .i64 0, .int .i64 0, .int .i64 0, .int .i64 0, .int .i64 0]).cells (G - k)) 64)) := (Below.refl _ _).drew.alloc (Nat.le_refl _) _
    generalize (w.drew.alloc (.cells (Builtin.zeroCells (Value.agg #[.int .i64 0, .int .i64 0, .int .i64 0, .int .i64 0, .int .i64 0, .int .i64 0]).cells k ++ Builtin.zeroCells (Value.agg #[.int .i64 0, .int .i64 0, .int .i64 0, .int .i64 0, .int .i64 0, .int .i64 0]).cells (G - k)) 64)) = w1 at hr hR hb
    have HH := Lib.hid (And.intro hR hb)
    have g63 : (G : Int) ≤ 9223372036854775807 := by unfold maxLen at hG2; omega
    have g0 : (k : Int) ≤ (G : Int) := by omega
    clear hR hb hi hz hsz hbt hG2
    go_enter Try.func99, Try.ntmps99
    go_wp2_with (at_builtin; refine Lib.wpList_append_run _ rfl _ _ _ _ rfl _ _ rfl rfl _ _ (hr _) ?_)
    go_ret
    exact ⟨_, rfl, HH.out⟩
set_option maxHeartbeats 4000000 in
/-- Two of them, one behind the other. -/
theorem concatE_any (b : Nat) (l m : List Ent) (sl sm : SlcE) (w : World) (hb : Blk w b 35 [.slice sl.1 sl.2.1 sl.2.2, .slice sm.1 sm.2.1 sm.2.2]) (hl : LogAt w w.heap.size sl l) (hm : LogAt w w.heap.size sm m) (h2 : l.length + m.length ≤ 2000) :
    Calls Try.prog 89 #[.slice (some ⟨b, 0, none⟩) 2 2] w fun e w' => ∃ v, e = .returned v ∧ Row w' w.heap.size v (l ++ m) ∧ Below w.heap.size w w' := by
  obtain ⟨A1, n1, c1⟩ := sl
  obtain ⟨A2, n2, c2⟩ := sm
  obtain rfl : n1 = l.length := hl.1
  obtain rfl : n2 = m.length := hm.1
  have FC : ∀ w', Below w.heap.size w w' → w'.cell? ⟨b, 0, none⟩ = some (.slice A1 l.length c1) ∧ w'.cell? ⟨b, 1, none⟩ = some (.slice A2 m.length c2) := fun w' h => ⟨(hb.keep h).cell 0, (hb.keep h).cell 1⟩
  have HL := Lib.hid (And.intro hl hm)
  have e1 : IntKind.i64.wrap (l.length : Int) = (l.length : Int) := IntWalk.i64_in _ (by omega)
  obtain ⟨s, hs⟩ : ∃ s : Nat, s = l.length + m.length := ⟨_, rfl⟩
  have hsum : (l.length : Int) + (m.length : Int) = (s : Int) := by omega
  have e2 : IntKind.i64.wrap (s : Int) = (s : Int) := IntWalk.i64_in _ (by omega)
  have s0 : ¬ (s : Int) < 0 := by omega
  have l0 : ¬ (l.length : Int) < 0 := by omega
  have HS := Lib.hid (And.intro hs h2)
  have hw := Below.refl w.heap.size w
  clear hl hm hs h2 hb
  go_enter Try.func89, Try.ntmps89
  go_wp2_with fail
  go_loopg [3, 11] 2 (fun q t i wr => w = wr ∧ ((q = 2 ∧ t = .int .i64 0 ∧ i = .int .i64 0) ∨ (q = 1 ∧ t = .int .i64 (l.length : Int) ∧ i = .int .i64 1) ∨ (q = 0 ∧ t = .int .i64 (s : Int) ∧ i = .int .i64 2)))
  case atStart => exact ⟨rfl, .inl ⟨rfl, rfl, rfl⟩⟩
  case round =>
    obtain ⟨rfl, hrel⟩ := hrel
    obtain ⟨f0, f1⟩ := FC _ hw
    rcases hrel with ⟨rfl, rfl, rfl⟩ | ⟨rfl, rfl, rfl⟩ | ⟨rfl, rfl, rfl⟩
    · go_wp2_with fail
      go_roundg 1
      case measure => omega
      case rel => exact ⟨rfl, .inr (.inl ⟨rfl, rfl, rfl⟩)⟩
    · go_wp2_with fail
      go_roundg 0
      case measure => omega
      case rel => exact ⟨rfl, .inr (.inr ⟨rfl, rfl, rfl⟩)⟩
    · clear f0 f1
      go_wp2_with fail
      refine (growE_any s (by have := HS.out; omega) _).mono ?_
      rintro e w1 ⟨v, rfl, hR, hb1⟩
      have HR := Lib.hid (And.intro hR hb1)
      clear hR hb1
      go_wp2_with fail
      go_loopg [6, 27] 2 (fun q t i wr => Below w.heap.size w wr ∧ ((q = 2 ∧ Row wr w.heap.size t [] ∧ i = .int .i64 0) ∨ (q = 1 ∧ Row wr w.heap.size t l ∧ i = .int .i64 1) ∨ (q = 0 ∧ Row wr w.heap.size t (l ++ m) ∧ i = .int .i64 2)))
      case atStart => exact ⟨HR.out.2, .inl ⟨rfl, HR.out.1, rfl⟩⟩
      case round =>
        clear HR
        obtain ⟨hwr, hrel⟩ := hrel
        obtain ⟨wo, rfl⟩ : ∃ wo, wo = wr := ⟨_, rfl⟩
        obtain ⟨f0, f1⟩ := FC _ hwr
        rcases hrel with ⟨rfl, hR, rfl⟩ | ⟨rfl, hR, rfl⟩ | ⟨rfl, hR, rfl⟩
        · obtain ⟨v2, w2, hrun, hR2, hg2, _⟩ := Row.app hR A1 c1 ((HL.out.1.2.2.2.below hwr).more hwr.size) (by have := HS.out.2; simp only [List.length_nil]; omega) hwr.size
          have hw2 := below_own hwr hg2 hR hwr.size
          rw [List.nil_append] at hR2
          have H2 := Lib.hid (And.intro hw2 hR2)
          clear hw2 hR2 hg2 hR
          go_wp2_with (at_builtin; refine wpList_app rfl (by rfl) (by rfl) (by rfl) hrun ?_)
          go_roundg 1
          case measure => omega
          case rel => exact ⟨H2.out.1, .inr (.inl ⟨rfl, H2.out.2, rfl⟩)⟩
        · obtain ⟨v2, w2, hrun, hR2, hg2, _⟩ := Row.app hR A2 c2 ((HL.out.2.2.2.2.below hwr).more hwr.size) (by have := HS.out.2; omega) hwr.size
          have hw2 := below_own hwr hg2 hR hwr.size
          have H2 := Lib.hid (And.intro hw2 hR2)
          clear hw2 hR2 hg2 hR
          go_wp2_with (at_builtin; refine wpList_app rfl (by rfl) (by rfl) (by rfl) hrun ?_)
          go_roundg 0
          case measure => omega
          case rel => exact ⟨H2.out.1, .inr (.inr ⟨rfl, H2.out.2, rfl⟩)⟩
        · have H2 := Lib.hid (And.intro hwr hR)
          clear hR
          go_wp2_with fail
          go_ret
          exact ⟨_, rfl, H2.out.2, H2.out.1⟩
end Go.Proofs.Ytdphfhenjndkkaa

set_option linter.unusedSimpArgs false
set_option linter.unusedVariables false
set_option maxRecDepth 100000
namespace Go.Sq
open Go
theorem abs_seqT {P : Program} {ds : List (Option Tmp)} {K : Act → World → Prop} {R : Exit → Act → World → Prop} {S : World → Prop} {t : Sch Oper} {a : Act} {w : World} (J : World → Prop) (hJ : J w) (h : ∀ w', J w' → SeqT P ds K R S t a w') : SeqT P ds K R S t a w := h w hJ
end Go.Sq
namespace Go.Proofs.Ytdphfhenjndkkaa
open Go Go.RowKit Go.Sq Go.Wd Go.Arch Go.Im

/-- A log of a record that is handed back, apart from its row. -/
def ApartR (w : World) (v : Value) (x : RecV) : Prop := LogAt w w.heap.size x.es x.ents ∧ ∀ b o, x.es.1 = some ⟨b, o, none⟩ → some b ≠ v.ownBlock ∧ b < w.heap.size
def RRow (B : Nat) (w : World) (v : Value) (L : List RecV) : Prop := Gr.Row recE w B v L ∧ ∀ x ∈ L, ApartR w v x
section
variable {B : Nat} {w w' : World} {v : Value} {L : List RecV}
theorem RRow.nil (w : World) (B : Nat) : RRow B w (.slice none 0 0) [] := ⟨Gr.Row.nil (R := recE) w B, by simp⟩
theorem ApartR.keep {x : RecV} (h : ApartR w v x) (hb : Below w.heap.size w w') : ApartR w' v x := ⟨h.1.keep hb, fun b o e => ⟨(h.2 b o e).1, Nat.lt_of_lt_of_le (h.2 b o e).2 hb.size⟩⟩
theorem RRow.keep (h : RRow B w v L) (hb : Below w.heap.size w w') : RRow B w' v L := ⟨Gr.Row.keep h.1 hb, fun x hx => (h.2 x hx).keep hb⟩
theorem RRow.recs (h : RRow B w v L) : ∃ A c, v = .slice A L.length c ∧ L.length ≤ c ∧ c ≤ 9223372036854775807 ∧ Rcs w w.heap.size A L := by
  obtain ⟨A, c, e, h1, h2, h3⟩ := Gr.Row.form h.1
  exact ⟨A, c, e, h1, h2, h3, fun x hx => (h.2 x hx).1⟩
theorem RRow.snoc (h : RRow B w v L) (x : RecV) (hx : ApartR w v x) (hn : L.length < 100000) (hB : B ≤ w.heap.size) :
    ∃ v' w', (Builtin.append_ #[44, 44] 44 #[v, .slice (some ⟨w.heap.size, 0, none⟩) 1 1]).run Try.prog (w.alloc (.cells (rcv x).toArray 53)) = .ok v' w' ∧ RRow B w' v' (L ++ [x]) ∧ w.grownBy w' v.ownBlock := by
  obtain ⟨v2, w2, hrun, hR2, hg2, hown⟩ := Gr.Row.snoc h.1 x hn hB (H := w.heap.size) rfl 44
  refine ⟨v2, w2, hrun, ⟨hR2, fun y hy => ?_⟩, hg2⟩
  have key : ApartR w v y := by
    rcases List.mem_append.1 hy with hy | hy
    · exact h.2 y hy
    · rw [List.mem_singleton.1 hy]; exact hx
  have hlog : LogAt w2 w2.heap.size y.es y.ents := by
    cases hv : v.ownBlock with
    | none =>
      rw [hv] at hg2
      exact key.1.keep ⟨hg2.os, hg2.tape, hg2.output, hg2.size, fun k hk => hg2.block k hk (by simp)⟩
    | some g =>
      rw [hv] at hg2
      exact key.1.apart (Nat.le_refl _) hg2 (fun b o e e2 => (key.2 b o e).1 (by rw [hv, e2]))
  refine ⟨hlog, fun b o e => ⟨?_, Nat.lt_of_lt_of_le (key.2 b o e).2 hg2.size⟩⟩
  rcases hown with e2 | e2
  · rw [e2]; exact (key.2 b o e).1
  · rw [e2]
    intro e3
    have := (key.2 b o e).2
    cases e3
    omega
/-- A row stays where a block of another type turns, of few cells. -/
theorem RRow.stored {g : Nat} {T : TypeId} {cs : List Value} (h : RRow B w v L) (hZ : Blk w g T cs) (hc : cs.length ≤ 5) (hT : T ≠ 53) (hg : w.grownBy w' (some g)) : RRow B w' v L := by
  refine ⟨Gr.Row.beside h.1 hg (fun k hk e => ?_), fun x hx => ⟨(h.2 x hx).1.stored hZ hc hg, fun b o e => ⟨((h.2 x hx).2 b o e).1, Nat.lt_of_lt_of_le ((h.2 x hx).2 b o e).2 hg.size⟩⟩⟩
  cases e
  exact own_not h.1 hk (fun e => hT e.symm) _ hZ
end
theorem Kept.fresh {w w1 w2 : World} {r : Option Nat} {k : Nat} (h : Kept w w1 r none) (hg : w1.grownBy w2 (some k)) (hk : w.heap.size ≤ k) : Kept w w2 r none :=
  ⟨hg.os.trans h.1, hg.tape.trans h.2.1, hg.output.trans h.2.2.1, Nat.le_trans h.2.2.2.1 hg.size, fun i hi a b => (hg.block i (by have := h.2.2.2.1; omega) (by intro e; cases e; omega)).trans (h.2.2.2.2 i hi a b)⟩
theorem prefix_sl (l m : List Ent) (sl sm : SlcE) (w : World) (hl : LogAt w w.heap.size sl l) (hm : LogAt w w.heap.size sm m) :
    Calls Try.prog 74 #[.slice sl.1 sl.2.1 sl.2.2, .slice sm.1 sm.2.1 sm.2.2] w fun e w' => e = .returned (.bool (decide (l <+: m))) ∧ Below w.heap.size w w' := by
  obtain ⟨A, n, c⟩ := sl
  obtain ⟨B, k, d⟩ := sm
  obtain rfl : n = l.length := hl.1
  obtain rfl : k = m.length := hm.1
  exact prefix_any l m A B c d w hl.2.2.2 hm.2.2.2 (Nat.le_trans hl.2.1 hl.2.2.1) (Nat.le_trans hm.2.1 hm.2.2.1) hm.2.1 hm.2.2.1
theorem Row.form2 {w : World} {B : Nat} {v : Value} {l : List Ent} (h : Row w B v l) : ∃ A c, v = .slice A l.length c ∧ LogAt w w.heap.size (A, l.length, c) l ∧ (0 < l.length → ∃ g, A = some ⟨g, 0, none⟩ ∧ B ≤ g ∧ g < w.heap.size) := by
  obtain ⟨A, c, rfl, h1, h2, h3⟩ := Row.form h
  refine ⟨A, c, rfl, ⟨rfl, h1, h2, h3⟩, fun h0 => ?_⟩
  rcases id h.2 with ⟨h', hn⟩ | ⟨g, cap, cur, h', hg, _⟩
  · omega
  · injection h' with e1
    subst e1
    exact ⟨g, rfl, hg, (h.lt _ rfl).2⟩
theorem LogAt.front {w : World} {B n cap : Nat} {A : Option Addr} {l : List Ent} (h : LogAt w B (A, n, cap) l) {c : Nat} (hc : c ≤ n) : LogAt w B (A, c, cap) (l.take c) := by
  obtain ⟨h1, h2, h3, h4⟩ := h
  dsimp only at h1 h2 h3
  subst h1
  exact ⟨by rw [List.length_take]; show c = _; omega, by rw [List.length_take]; show min c l.length ≤ cap; omega, h3, h4.take c⟩
theorem LogAt.back {w : World} {B n cap : Nat} {A : Option Addr} {l : List Ent} (h : LogAt w B (A, n, cap) l) {c : Nat} (hcd : c ≤ l.length) :
    LogAt w B (if cap = c then A else A.map (·.add (c * 6)), n - c, cap - c) (l.drop c) := by
  obtain ⟨h1, h2, h3, h4⟩ := h
  dsimp only at h1 h2 h3
  subst h1
  have hlen : (l.drop c).length = l.length - c := List.length_drop
  refine ⟨hlen.symm, by rw [hlen]; show l.length - c ≤ cap - c; omega, by show cap - c ≤ 9223372036854775807; omega, fun hl => ?_⟩
  rw [hlen] at hl
  obtain ⟨b, off, ha, hb, hc⟩ := h4 (by omega)
  rw [if_neg (by omega)]
  subst ha
  refine ⟨b, off + c * 6, congrArg some (add_off b off (c * 6)), hb, fun i e he => ?_⟩
  rw [List.getElem?_drop] at he
  have := hc (c + i) e he
  rw [Nat.add_mul, ← Nat.add_assoc] at this
  exact this
end Go.Proofs.Ytdphfhenjndkkaa

set_option linter.unusedSimpArgs false
set_option linter.unusedVariables false
set_option maxRecDepth 100000
namespace Go.Proofs.Ytdphfhenjndkkaa
open Go Go.RowKit Go.Sq Go.Wd Go.Arch Go.Im

theorem wf_small {s : Int} (h : -9223372036854775808 ≤ s ∧ s ≤ 9223372036854775807) : (Lit.int .i64 s).wf = true := by
  simp [Lit.wf, IntKind.min, IntKind.max, IntKind.signed, IntKind.bits]
  omega
def TakeP (S : Said) (b mm n : Nat) (gr : Int) (G : Int → Option (Int × Int)) (m : MailS) (now : Int) (w : World) (e : Ending) (w' : World) : Prop :=
  Answer S e w' ∧ Bk w' b mm (n + 1) gr (bookG S.act G m.stream m.epoch now) ∧ Kept w w' (some mm) none
theorem TakeP.pure {S : Said} {b mm n : Nat} {gr : Int} {G : Int → Option (Int × Int)} {m : MailS} {now : Int} {w w' : World} {e : Ending} (h : S.act = 0) (hA : Answer S e w') (hB : Bk w b mm n gr G) (hb : Below w.heap.size w w') : TakeP S b mm n gr G m now w e w' :=
  ⟨hA, by rw [h]; exact (hB.below hb).mono (by omega), Kept.ofBelow hb _ _⟩
theorem Answer.mail {S : Said} {A : Option Addr} {x : MailV} {w' : World} (h : S.recs = []) (hx : Mails w' w'.heap.size A [x]) (hb : S.back = [x.m]) (ho : x.o = (0, 0, 0, 0, 0) ∧ x.an = (0, 0, 0)) : Answer S (.returned (.tuple #[.slice none 0 0, .slice A 1 1])) w' :=
  ⟨none, 0, A, 1, [], [x], rfl, Rcs.nil, hx, h.symm, hb.symm, by simp, fun y hy => by rw [List.mem_singleton.1 hy]; exact ho⟩
def promV (r : RegS) (m : MailS) (s : SlcE) : MailV := ⟨promM r m, s, (0, 0, 0, 0, 0), (0, 0, 0)⟩
def recPV (m : MailS) : RecV := ⟨1, m.stream, m.epoch, 0, 0, 0, (none, 0, 0), [], (none, 0, 0)⟩
/-- The boxes of a call on a register and a piece of mail. -/
def RpI (w W : World) (r : RegS) (sl : SlcE) (x : MailV) : Prop := Below w.heap.size w W ∧ Blk W w.heap.size 37 (rgv r sl) ∧ Blk W (w.heap.size + 1) 43 (mailv x) ∧ LogAt W W.heap.size sl r.log
section
variable {w W W' : World} {r : RegS} {sl : SlcE} {x : MailV}
theorem RpI.new (hl : LogAt w w.heap.size sl r.log) : RpI w ((w.alloc (.cells (rgv r sl).toArray 37)).alloc (.cells (mailv x).toArray 43)) r sl x := by
  have hz : Below w.heap.size w ((w.alloc (.cells (rgv r sl).toArray 37)).alloc (.cells (mailv x).toArray 43)) := ((Below.refl _ _).alloc (Nat.le_refl _) _).alloc (by simp) _
  exact ⟨hz, (Blk.new w _ _).alloc _, Blk.newAt _ _ _ (by simp), hl.keep hz⟩
theorem RpI.keep (h : RpI w W r sl x) (hb : Below W.heap.size W W') : RpI w W' r sl x := ⟨below_trans h.1 hb h.1.size, h.2.1.keep hb, h.2.2.1.keep hb, h.2.2.2.keep hb⟩
theorem RpI.kept {b mm n : Nat} {gr : Int} {G : Int → Option (Int × Int)} (h : RpI w W r sl x) (hB : Bk W b mm n gr G) (hK : Kept W W' (some mm) none) :
    Blk W' w.heap.size 37 (rgv r sl) ∧ Blk W' (w.heap.size + 1) 43 (mailv x) ∧ LogAt W' W'.heap.size sl r.log :=
  ⟨hK.blk h.2.1 (fun e => hB.notBlk h.2.1 (Option.some.inj e)) (by simp), hK.blk h.2.2.1 (fun e => hB.notBlk h.2.2.1 (Option.some.inj e)) (by simp), h.2.2.2.turned hB hK⟩
end

set_option maxHeartbeats 8000000 in
theorem prep_any (r : RegS) (sl : SlcE) (b mm n : Nat) (gr : Int) (G : Int → Option (Int × Int)) (x : MailV) (now : Int) (w : World) (hB : Bk w b mm n gr G) (hn : n < maxLen) (h0 : 0 ≤ now) (hl : LogAt w w.heap.size sl r.log) (h2 : r.log.length ≤ 2000) (hok : mailOk r x.m) :
    Calls Try.prog 37 #[.agg (rgv r sl).toArray, .pointer (some ⟨b, 0, none⟩), .agg (mailv x).toArray, .int .i64 now] w
      (TakeP (prepS r (mayL gr (G x.m.stream) x.m.epoch now) x.m) b mm n gr G x.m now w) := by
  obtain ⟨k1, k2, k3, k4, k5, k6⟩ := hok
  have hwf : (Lit.int .i64 x.m.stream).wf = true := wf_small (by omega)
  have hI0 := RpI.new (x := x) hl
  have FC : ∀ W, RpI w W r sl x → W.cell? ⟨w.heap.size + 1, 3, none⟩ = some (.int .i64 x.m.stream) ∧ W.cell? ⟨w.heap.size + 1, 4, none⟩ = some (.int .i64 x.m.epoch) := fun W h => ⟨h.2.2.1.cell 3, h.2.2.1.cell 4⟩
  have HI := Lib.hid (And.intro hI0 hB)
  have HB := Lib.hid hB
  have HK := Lib.hid (And.intro hwf (And.intro k1 (And.intro hn (And.intro h0 (And.intro h2 k6)))))
  clear hI0 hl hB hwf k1 k2 k3 k4 k5 k6 h2 hn
  obtain ⟨f3, f4⟩ := FC _ HI.out.1
  go_enter Try.func37, Try.ntmps37
  go_wp2_with fail
  have hz1 : Below w.heap.size w (((w.alloc (.cells (rgv r sl).toArray 37)).alloc (.cells (mailv x).toArray 43)).alloc (.cells (rcv (recPV x.m)).toArray 53)) := HI.out.1.1.alloc HI.out.1.1.size _
  have hI1 := HI.out.1.keep ((Below.refl _ _).alloc (Nat.le_refl _) (.cells (rcv (recPV x.m)).toArray 53))
  have hR1 : Blk (((w.alloc (.cells (rgv r sl).toArray 37)).alloc (.cells (mailv x).toArray 43)).alloc (.cells (rcv (recPV x.m)).toArray 53)) (w.heap.size + 1 + 1) 53 (rcv (recPV x.m)) := Blk.newAt _ _ _ (by simp)
  have H1 := Lib.hid (And.intro hI1 (And.intro hR1 (HI.out.2.below hz1)))
  clear hz1 hI1 hR1 HI f3 f4
  refine (lmay_any b mm n gr G x.m.stream x.m.epoch now HK.out.1 _ H1.out.2.2).mono ?_
  obtain ⟨may, hmay⟩ : ∃ may, mayL gr (G x.m.stream) x.m.epoch now = may := ⟨_, rfl⟩
  rw [hmay]
  rintro e w3 ⟨rfl, hb3⟩
  have H3 := Lib.hid (And.intro (H1.out.1.keep hb3) (And.intro (H1.out.2.1.keep hb3) (And.intro (H1.out.2.2.below hb3) HK.out)))
  have HM := Lib.hid hmay
  clear hb3 H1 HK hmay
  obtain ⟨f3, f4⟩ := FC _ H3.out.1
  cases may with
  | false =>
    go_wp2_with ((with_reducible refine at_list ?_); first | refine wpList_load_blk rfl 37 _ rfl _ rfl _ _ _ (H3.out.1.2.1) Try.underlying37 rfl rg_info ?_ | refine wpList_load_blk rfl 43 _ rfl _ rfl _ _ _ (H3.out.1.2.2.1) Try.underlying43 rfl mail_info ?_)
    refine (refuse_any r sl x w3).mono ?_
    rintro e w4 ⟨A, rfl, hM, hb4⟩
    have H4 := Lib.hid (And.intro (below_trans H3.out.1.1 hb4 H3.out.1.1.size) (And.intro hM (H3.out.2.2.1.below hb4)))
    have hS : prepS r false x.m = ⟨[], [refM r x.m], 0⟩ := by unfold prepS; rw [if_neg (by simp)]
    have HS := Lib.hid hS
    clear hM hb4 H3 f3 f4 hS
    go_wp2_with fail
    go_ret2
    rw [HM.out, HS.out]
    exact TakeP.pure rfl (Answer.mail rfl H4.out.2.1 rfl ⟨rfl, rfl⟩) HB.out H4.out.1
  | true =>
    have hsome : (applyR r (recPV x.m).s).isSome = decide (r.prom < x.m.epoch) := by
      rw [apply_1 H3.out.2.2.2.2.1 rfl]
      have h6 := H3.out.2.2.2.2.2.2.2.2
      by_cases hp : r.prom < x.m.epoch
      · rw [if_pos ⟨hp, h6⟩, decide_eq_true hp]; rfl
      · rw [if_neg (fun h => hp h.1), decide_eq_false hp]; rfl
    have HSM := Lib.hid hsome
    clear hsome
    go_wp2_with ((with_reducible refine at_list ?_); first | refine wpList_load_blk_g 37 _ rfl rfl _ rfl _ _ _ (H3.out.1.2.1) Try.underlying37 rfl rg_info ?_ | refine wpList_load_blk_g 53 _ rfl rfl _ rfl _ _ _ (H3.out.2.1) Try.underlying53 rfl rc_info ?_)
    refine (may_any r sl (recPV x.m) w3 H3.out.1.2.2.2 LogAt.nil (by simp [recPV])).mono ?_
    rw [HSM.out]
    rintro e w4 ⟨rfl, hb4⟩
    have H4 := Lib.hid (And.intro (H3.out.1.keep hb4) (And.intro (H3.out.2.1.keep hb4) (And.intro (H3.out.2.2.1.below hb4) H3.out.2.2.2)))
    clear hb4 H3 f3 f4 HSM
    obtain ⟨f3, f4⟩ := FC _ H4.out.1
    by_cases hp : r.prom < x.m.epoch
    case neg =>
      rw [decide_eq_false hp]
      have HP := Lib.hid hp
      clear hp
      go_wp2_with ((with_reducible refine at_list ?_); first | refine wpList_load_blk rfl 37 _ rfl _ rfl _ _ _ (H4.out.1.2.1) Try.underlying37 rfl rg_info ?_ | refine wpList_load_blk rfl 43 _ rfl _ rfl _ _ _ (H4.out.1.2.2.1) Try.underlying43 rfl mail_info ?_)
      refine (refuse_any r sl x w4).mono ?_
      rintro e w5 ⟨A, rfl, hM, hb5⟩
      have H5 := Lib.hid (And.intro (below_trans H4.out.1.1 hb5 H4.out.1.1.size) hM)
      have hS : prepS r true x.m = ⟨[], [refM r x.m], 0⟩ := by unfold prepS; rw [if_neg (fun h => by have h1 := HP.out; have h2 := h.2; omega)]
      have HS := Lib.hid hS
      clear hM hb5 H4 f3 f4 hS
      go_wp2_with fail
      go_ret2
      rw [HM.out, HS.out]
      exact TakeP.pure rfl (Answer.mail rfl H5.out.2 rfl ⟨rfl, rfl⟩) HB.out H5.out.1
    case pos =>
      rw [decide_eq_true hp]
      have hS : prepS r true x.m = ⟨[recP x.m], [promM r x.m], 1⟩ := by unfold prepS; rw [if_pos ⟨rfl, hp⟩]
      have HS := Lib.hid hS
      clear hp hS
      go_wp2_with fail
      refine (lgrant_any b mm n H4.out.2.2.2.2.2.1 gr G x.m.stream x.m.epoch now H4.out.2.2.2.1 (by have := H4.out.2.2.2.2.2.2.1; omega) w4 H4.out.2.2.1).mono ?_
      rintro e w5 ⟨rfl, hB5, hg5⟩
      have hK5 : Kept w4 w5 (some mm) none := Kept.ofGrown hg5
      obtain ⟨h51, h52, h53⟩ := H4.out.1.kept H4.out.2.2.1 hK5
      have H5 := Lib.hid (And.intro h51 (And.intro h52 (And.intro h53 (And.intro hB5 (And.intro (hK5.blk H4.out.2.1 (fun e => H4.out.2.2.1.notBlk H4.out.2.1 (Option.some.inj e)) (by simp)) (And.intro ((Kept.ofBelow H4.out.1.1 _ _).trans hK5) H4.out.2.2.2.2.2.2.2.1))))))
      clear h51 h52 h53 hB5 hg5 hK5 H4 f3 f4
      have f4 : w5.cell? ⟨w.heap.size + 1, 4, none⟩ = some (.int .i64 x.m.epoch) := H5.out.2.1.cell 4
      go_wp2_with ((with_reducible refine at_list ?_); first | refine wpList_load_blk rfl 43 _ rfl _ rfl _ _ _ (H5.out.2.1) Try.underlying43 rfl mail_info ?_)
      refine (back_any x 2 x.m.epoch w5).mono ?_
      rintro e w6 ⟨rfl, hb6⟩
      have H6 := Lib.hid hb6
      clear hb6 f4
      go_wp2_with ((with_reducible refine at_list ?_); first | (refine wpList_store_own rfl 43 _ _ rfl _ (mailv (backV x.m 2 x.m.epoch)) rfl rfl _ _ (Blk.new w6 43 (mailv backV0)) mail_info rfl (mail_one _) ?_; intro w7 B7 g7))
      have hb7 := below_new g7
      have hP0 : PrS w5 w6.heap.size 43 (mailv (backV x.m 2 x.m.epoch)) (none, 0, 0) [] w7.drew := PrS.keep ⟨below_trans H6.out hb7 H6.out.size, B7, LogAt.nil, H6.out.size, by simp⟩ (Below.refl _ _).drew
      have hw7 := (below_trans H6.out hb7 H6.out.size).drew
      have H7 := Lib.hid (And.intro hw7 hP0)
      have HS2 := H6.out.size
      clear hb7 B7 g7 hP0 hw7 H6
      have FB : ∀ W, Below w5.heap.size w5 W → (W.cell? ⟨w.heap.size, 1, none⟩ = some (.int .i64 r.view) ∧ W.cell? ⟨w.heap.size, 2, none⟩ = some (.slice sl.1 sl.2.1 sl.2.2) ∧ W.cell? ⟨w.heap.size, 3, none⟩ = some (.int .i64 r.com)) ∧ W.cell? ⟨w.heap.size + 1, 8, none⟩ = some (.int .i64 x.m.stamp) := fun W h => ⟨⟨(H5.out.1.keep h).cell 1, (H5.out.1.keep h).cell 2, (H5.out.1.keep h).cell 3⟩, (H5.out.2.1.keep h).cell 8⟩
      refine wp_region_p ([(0, true), (1, true), (2, true), (3, true), (5, true), (6, true), (7, true), (8, true), (9, true), (4, false), (10, false), (11, true), (12, false), (13, true), (14, false), (15, true), (16, false)]) (fun w' => Below w5.heap.size w5 w') (by kernel_rfl) rfl (by kernel_rfl) (by kernel_rfl) (H7.out.1) rfl ?_
      intro KP RP TP hKP hTP hTP'
      simp only [List.append_eq, List.cons_append, List.nil_append, pick, nth]
      generalize w7.drew = wd at *
      generalize w6.heap.size = g at *
      go_wp2_with (first
        | (apply SeqP.skip; rfl; simp only [Act.put, List.setIfInBounds_toArray, List.set_cons_zero, List.set_cons_succ])
        | (apply SeqP.call; rfl; rfl; (intro w2 hw; have hw := hTP _ hw; ((obtain ⟨⟨q1, q2, q3⟩, q8⟩ := FB _ hw)); go_simp; exact ⟨rfl, rfl⟩); (intro w2 hw; have hw := hTP _ hw; ((obtain ⟨⟨q1, q2, q3⟩, q8⟩ := FB _ hw)); (first | fail)); simp only [Act.put, List.setIfInBounds_toArray, List.set_cons_zero, List.set_cons_succ])
        | (apply SeqP.pure; rfl; (intro w2 hw; have hw := hTP _ hw; ((obtain ⟨⟨q1, q2, q3⟩, q8⟩ := FB _ hw)); go_simp; with_reducible rfl); simp only [Act.put, List.setIfInBounds_toArray, List.set_cons_zero, List.set_cons_succ])
        | (apply SeqP.split; rfl; rfl; all_goals (intro hc; simp only [hc]; try simp only [beq_iff_eq, decide_eq_true_eq, beq_eq_false_iff_ne, decide_eq_false_iff_not, bne_iff_ne, ne_eq, Bool.not_eq_true', Bool.not_eq_false', Int.not_le, Int.not_lt, bne_eq_false_iff_eq, Bool.or_eq_true, Bool.and_eq_true, Bool.or_eq_false_iff] at hc)))
      apply SeqP.eff
      · rfl
      intro KE hKE
      go_wp2_with fail
      refine (clone_sl r.log sl wd (H5.out.2.2.1.keep H7.out.1) H5.out.2.2.2.2.2.2).mono ?_
      rintro e w8 ⟨s, rfl, hL, hwh, hb8⟩
      have lg := H7.out.2.2.1.lt
      have h8 : PrS w5 g 43 (mailv (backV x.m 2 x.m.epoch)) s r.log w8 := ⟨below_trans H7.out.1 hb8 H7.out.1.size, H7.out.2.2.1.keep hb8, hL, H7.out.2.2.2.2.1, fun b o e => by have := hwh b o e; omega⟩
      refine hKE _ _ (hTP' _ h8.1) ?_
      clear hKE KE hL hwh hb8 H7 lg
      go_wp2_with (first
        | (apply SeqP.skip; rfl; simp only [Act.put, List.setIfInBounds_toArray, List.set_cons_zero, List.set_cons_succ])
        | (apply SeqP.call; rfl; rfl; (intro w2 hw; have hw := hTP _ hw; ((obtain ⟨⟨q1, q2, q3⟩, q8⟩ := FB _ hw)); go_simp; exact ⟨rfl, rfl⟩); (intro w2 hw; have hw := hTP _ hw; ((obtain ⟨⟨q1, q2, q3⟩, q8⟩ := FB _ hw)); (first | fail)); simp only [Act.put, List.setIfInBounds_toArray, List.set_cons_zero, List.set_cons_succ])
        | (apply SeqP.pure; rfl; (intro w2 hw; have hw := hTP _ hw; ((obtain ⟨⟨q1, q2, q3⟩, q8⟩ := FB _ hw)); go_simp; with_reducible rfl); simp only [Act.put, List.setIfInBounds_toArray, List.set_cons_zero, List.set_cons_succ])
        | (apply SeqP.split; rfl; rfl; all_goals (intro hc; simp only [hc]; try simp only [beq_iff_eq, decide_eq_true_eq, beq_eq_false_iff_ne, decide_eq_false_iff_not, bne_iff_ne, ne_eq, Bool.not_eq_true', Bool.not_eq_false', Int.not_le, Int.not_lt, bne_eq_false_iff_eq, Bool.or_eq_true, Bool.and_eq_true, Bool.or_eq_false_iff] at hc)))
      have h9 := h8.set 5 (.int .i64 r.view)
      have h10 := h9.set 9 (.slice s.1 s.2.1 s.2.2)
      have h11 := h10.set 7 (.int .i64 r.com)
      have h12 := h11.set 8 (.int .i64 x.m.stamp)
      have HP := Lib.hid (And.intro h8 (And.intro h9 (And.intro h10 (And.intro h11 h12))))
      have c5 : w8.cell? ⟨g, 5, none⟩ = some (.int .i64 0) := h8.2.1.cell 5
      have z5 : w8.frozen? ⟨g, 5, none⟩ = false := h8.2.1.frozen 5
      have c9 : w8.cell? ⟨g, 9, none⟩ = some (.slice none 0 0) := h8.2.1.cell 9
      have z9 : w8.frozen? ⟨g, 9, none⟩ = false := h8.2.1.frozen 9
      have c7 : w8.cell? ⟨g, 7, none⟩ = some (.int .i64 0) := h8.2.1.cell 7
      have z7 : w8.frozen? ⟨g, 7, none⟩ = false := h8.2.1.frozen 7
      have c8 : w8.cell? ⟨g, 8, none⟩ = some (.int .i64 0) := h8.2.1.cell 8
      have z8 : w8.frozen? ⟨g, 8, none⟩ = false := h8.2.1.frozen 8
      clear h8 h9 h10 h11 h12
      apply SeqP.eff
      · rfl
      intro KE hKE
      go_wp2_with fail
      refine hKE _ _ (hTP' _ HP.out.2.1.1) ?_
      clear hKE KE
      go_wp2_with (first
        | (apply SeqP.skip; rfl; simp only [Act.put, List.setIfInBounds_toArray, List.set_cons_zero, List.set_cons_succ])
        | (apply SeqP.call; rfl; rfl; (intro w2 hw; have hw := hTP _ hw; (skip); go_simp; exact ⟨rfl, rfl⟩); (intro w2 hw; have hw := hTP _ hw; (skip); (first | fail)); simp only [Act.put, List.setIfInBounds_toArray, List.set_cons_zero, List.set_cons_succ])
        | (apply SeqP.pure; rfl; (intro w2 hw; have hw := hTP _ hw; (skip); go_simp; with_reducible rfl); simp only [Act.put, List.setIfInBounds_toArray, List.set_cons_zero, List.set_cons_succ])
        | (apply SeqP.split; rfl; rfl; all_goals (intro hc; simp only [hc]; try simp only [beq_iff_eq, decide_eq_true_eq, beq_eq_false_iff_ne, decide_eq_false_iff_not, bne_iff_ne, ne_eq, Bool.not_eq_true', Bool.not_eq_false', Int.not_le, Int.not_lt, bne_eq_false_iff_eq, Bool.or_eq_true, Bool.and_eq_true, Bool.or_eq_false_iff] at hc)))
      apply SeqP.eff
      · rfl
      intro KE hKE
      go_wp2_with fail
      refine hKE _ _ (hTP' _ HP.out.2.2.1.1) ?_
      clear hKE KE
      go_wp2_with (first
        | (apply SeqP.skip; rfl; simp only [Act.put, List.setIfInBounds_toArray, List.set_cons_zero, List.set_cons_succ])
        | (apply SeqP.call; rfl; rfl; (intro w2 hw; have hw := hTP _ hw; (skip); go_simp; exact ⟨rfl, rfl⟩); (intro w2 hw; have hw := hTP _ hw; (skip); (first | fail)); simp only [Act.put, List.setIfInBounds_toArray, List.set_cons_zero, List.set_cons_succ])
        | (apply SeqP.pure; rfl; (intro w2 hw; have hw := hTP _ hw; (skip); go_simp; with_reducible rfl); simp only [Act.put, List.setIfInBounds_toArray, List.set_cons_zero, List.set_cons_succ])
        | (apply SeqP.split; rfl; rfl; all_goals (intro hc; simp only [hc]; try simp only [beq_iff_eq, decide_eq_true_eq, beq_eq_false_iff_ne, decide_eq_false_iff_not, bne_iff_ne, ne_eq, Bool.not_eq_true', Bool.not_eq_false', Int.not_le, Int.not_lt, bne_eq_false_iff_eq, Bool.or_eq_true, Bool.and_eq_true, Bool.or_eq_false_iff] at hc)))
      apply SeqP.eff
      · rfl
      intro KE hKE
      go_wp2_with fail
      refine hKE _ _ (hTP' _ HP.out.2.2.2.1.1) ?_
      clear hKE KE
      go_wp2_with (first
        | (apply SeqP.skip; rfl; simp only [Act.put, List.setIfInBounds_toArray, List.set_cons_zero, List.set_cons_succ])
        | (apply SeqP.call; rfl; rfl; (intro w2 hw; have hw := hTP _ hw; (skip); go_simp; exact ⟨rfl, rfl⟩); (intro w2 hw; have hw := hTP _ hw; (skip); (first | fail)); simp only [Act.put, List.setIfInBounds_toArray, List.set_cons_zero, List.set_cons_succ])
        | (apply SeqP.pure; rfl; (intro w2 hw; have hw := hTP _ hw; (skip); go_simp; with_reducible rfl); simp only [Act.put, List.setIfInBounds_toArray, List.set_cons_zero, List.set_cons_succ])
        | (apply SeqP.split; rfl; rfl; all_goals (intro hc; simp only [hc]; try simp only [beq_iff_eq, decide_eq_true_eq, beq_eq_false_iff_ne, decide_eq_false_iff_not, bne_iff_ne, ne_eq, Bool.not_eq_true', Bool.not_eq_false', Int.not_le, Int.not_lt, bne_eq_false_iff_eq, Bool.or_eq_true, Bool.and_eq_true, Bool.or_eq_false_iff] at hc)))
      apply SeqP.eff
      · rfl
      intro KE hKE
      go_wp2_with fail
      refine hKE _ _ (hTP' _ HP.out.2.2.2.2.1) ?_
      clear hKE KE
      go_wp2_with (first
        | (apply SeqP.skip; rfl; simp only [Act.put, List.setIfInBounds_toArray, List.set_cons_zero, List.set_cons_succ])
        | (apply SeqP.call; rfl; rfl; (intro w2 hw; have hw := hTP _ hw; (skip); go_simp; exact ⟨rfl, rfl⟩); (intro w2 hw; have hw := hTP _ hw; (skip); (first | fail)); simp only [Act.put, List.setIfInBounds_toArray, List.set_cons_zero, List.set_cons_succ])
        | (apply SeqP.pure; rfl; (intro w2 hw; have hw := hTP _ hw; (skip); go_simp; with_reducible rfl); simp only [Act.put, List.setIfInBounds_toArray, List.set_cons_zero, List.set_cons_succ])
        | (apply SeqP.split; rfl; rfl; all_goals (intro hc; simp only [hc]; try simp only [beq_iff_eq, decide_eq_true_eq, beq_eq_false_iff_ne, decide_eq_false_iff_not, bne_iff_ne, ne_eq, Bool.not_eq_true', Bool.not_eq_false', Int.not_le, Int.not_lt, bne_eq_false_iff_eq, Bool.or_eq_true, Bool.and_eq_true, Bool.or_eq_false_iff] at hc)))
      apply SeqP.nil
      refine hKP _ _ (hTP' _ (HP.out.2.2.2.2.1)) ?_
      clear hKP hTP hTP'
      have hcs : ((((mailv (backV x.m 2 x.m.epoch)).set 5 (.int .i64 r.view)).set 9 (.slice s.1 s.2.1 s.2.2)).set 7 (.int .i64 r.com)).set 8 (.int .i64 x.m.stamp) = mailv (promV r x.m s) := rfl
      have h13 := HP.out.2.2.2.2
      rw [hcs] at h13
      have H13 := Lib.hid h13
      clear HP h13 hcs c5 z5 c9 z9 c7 z7 c8 z8
      generalize (((w8.setCell ⟨g, 5, none⟩ (.int .i64 r.view)).setCell ⟨g, 9, none⟩ (.slice s.1 s.2.1 s.2.2)).setCell ⟨g, 7, none⟩ (.int .i64 r.com)).setCell ⟨g, 8, none⟩ (.int .i64 x.m.stamp) = wy at H13 ⊢
      have H14 := Lib.hid (H13.out.keep (Below.refl _ _).drew)
      clear H13
      go_wp2_with fail
      have hrec := H5.out.2.2.2.2.1.keep H14.out.1
      have H15 := Lib.hid (And.intro H14.out (And.intro hrec (And.intro H5.out.2.2.2.1 H5.out.2.2.2.2.2.1)))
      clear hrec
      obtain ⟨rv, hrv⟩ : ∃ rv, recPV x.m = rv := ⟨_, rfl⟩
      obtain ⟨pv, hpv⟩ : ∃ pv, promV r x.m s = pv := ⟨_, rfl⟩
      have hRX : rv.s = recP x.m ∧ rv.fs = (none, 0, 0) ∧ rv.ents = [] ∧ rv.es = (none, 0, 0) := by rw [← hrv]; exact ⟨rfl, rfl, rfl, rfl⟩
      have hPX : pv.m = promM r x.m ∧ pv.o = (0, 0, 0, 0, 0) ∧ pv.an = (0, 0, 0) ∧ pv.es = s := by rw [← hpv]; exact ⟨rfl, rfl, rfl, rfl⟩
      have HX := Lib.hid (And.intro hRX hPX)
      rw [hrv, hpv] at H15
      clear hRX hPX hrv hpv H14
      refine wp_region_t (.quiet 0 (.quiet 2 (.two 1 3 (.quiet 4 (.one 3 (.quiet 5 .done))) (.one 1 (.quiet 4 (.quiet 5 .done)))))) (fun w' => Blk w' (w.heap.size + 1 + 1) 53 (rcv rv) ∧ Blk w' g 43 (mailv pv)) (by kernel_rfl) (by kernel_rfl) (by kernel_rfl) (by kernel_rfl) (⟨H15.out.2.1, H15.out.1.2.1⟩) rfl ?_
      intro KP RP TP hKP hTP hTP'
      simp only [Sch.fill, nth]
      generalize wy.drew = wz at *
      go_wp2_with (first
        | (apply SeqT.skip; rfl; simp only [Act.put, List.setIfInBounds_toArray, List.set_cons_zero, List.set_cons_succ])
        | (apply SeqT.pure; rfl; (intro w2 hw; have hw := hTP _ hw; exact exec_load_blk 53 _ rfl _ rfl _ _ (hw.1) _ Try.underlying53 rfl rc_info); simp only [Act.put, List.setIfInBounds_toArray, List.set_cons_zero, List.set_cons_succ]) | (apply SeqT.pure; rfl; (intro w2 hw; have hw := hTP _ hw; exact exec_load_blk 43 _ rfl _ rfl _ _ (hw.2) _ Try.underlying43 rfl mail_info); simp only [Act.put, List.setIfInBounds_toArray, List.set_cons_zero, List.set_cons_succ])
        | (apply SeqT.pure; rfl; (intro w2 hw; have hw := hTP _ hw; (skip); go_simp; with_reducible rfl); simp only [Act.put, List.setIfInBounds_toArray, List.set_cons_zero, List.set_cons_succ]))
      have hx0 : LogAt wz wz.heap.size rv.es rv.ents := by rw [HX.out.1.2.2.1, HX.out.1.2.2.2]; exact LogAt.nil
      have hy0 : LogAt wz wz.heap.size pv.es pv.m.ents := by rw [HX.out.2.2.2.2, HX.out.2.1]; exact H15.out.1.2.2.1
      have hwz := H15.out.1.1
      have ha1 := answer12 wz rv pv ⟨[recP x.m], [promM r x.m], 1⟩ hx0 hy0 (by rw [HX.out.1.1]) (by rw [HX.out.2.1]) HX.out.1.2.1 ⟨HX.out.2.2.1, HX.out.2.2.2.1⟩
      have ha2 := answer21 wz rv pv ⟨[recP x.m], [promM r x.m], 1⟩ hx0 hy0 (by rw [HX.out.1.1]) (by rw [HX.out.2.1]) HX.out.1.2.1 ⟨HX.out.2.2.1, HX.out.2.2.2.1⟩
      have hk1 := (hwz.alloc hwz.size (.cells (rcv rv).toArray 53)).alloc (by have := hwz.size; simp; omega) (.cells (mailv pv).toArray 43)
      have hk2 := (hwz.alloc hwz.size (.cells (mailv pv).toArray 43)).alloc (by have := hwz.size; simp; omega) (.cells (rcv rv).toArray 53)
      have HA := Lib.hid (And.intro (And.intro ha1 hk1) (And.intro ha2 hk2))
      clear hx0 hy0 hwz ha1 ha2 hk1 hk2
      unfold rcv mailv
      apply SeqT.two
      · apply EffT.go
        · rfl
        intro KE hKE
        go_wp2_with fail
        refine hKE _ _ (hTP' _ (⟨H15.out.2.1.alloc _, H15.out.1.2.1.alloc _⟩)) ?_
        clear hKE KE
        go_wp2_with (first
          | (apply SeqT.skip; rfl; simp only [Act.put, List.setIfInBounds_toArray, List.set_cons_zero, List.set_cons_succ])
          
          | (apply SeqT.pure; rfl; (intro w2 hw; have hw := hTP _ hw; (skip); go_simp; with_reducible rfl); simp only [Act.put, List.setIfInBounds_toArray, List.set_cons_zero, List.set_cons_succ]))
        apply SeqT.one
        apply EffT.go
        · rfl
        intro KE hKE
        go_wp2_with fail
        refine hKE _ _ (hTP' _ (⟨(H15.out.2.1.alloc _).alloc _, (H15.out.1.2.1.alloc _).alloc _⟩)) ?_
        clear hKE KE
        go_wp2_with (first
          | (apply SeqT.skip; rfl; simp only [Act.put, List.setIfInBounds_toArray, List.set_cons_zero, List.set_cons_succ])
          
          | (apply SeqT.pure; rfl; (intro w2 hw; have hw := hTP _ hw; (skip); go_simp; with_reducible rfl); simp only [Act.put, List.setIfInBounds_toArray, List.set_cons_zero, List.set_cons_succ]))
        apply SeqT.done
        refine hKP _ _ (hTP' _ ⟨(H15.out.2.1.alloc _).alloc _, (H15.out.1.2.1.alloc _).alloc _⟩) ?_
        clear hKP hTP hTP'
        go_wp2_with fail
        go_ret2
        rw [HM.out, HS.out]
        exact ⟨HA.out.1.1, H15.out.2.2.1.below HA.out.1.2, H15.out.2.2.2.trans (Kept.ofBelow HA.out.1.2 _ _)⟩
      · apply EffT.go
        · rfl
        intro KE hKE
        go_wp2_with fail
        refine hKE _ _ (hTP' _ (⟨H15.out.2.1.alloc _, H15.out.1.2.1.alloc _⟩)) ?_
        clear hKE KE
        go_wp2_with (first
          | (apply SeqT.skip; rfl; simp only [Act.put, List.setIfInBounds_toArray, List.set_cons_zero, List.set_cons_succ])
          
          | (apply SeqT.pure; rfl; (intro w2 hw; have hw := hTP _ hw; (skip); go_simp; with_reducible rfl); simp only [Act.put, List.setIfInBounds_toArray, List.set_cons_zero, List.set_cons_succ]))
        apply SeqT.one
        apply EffT.go
        · rfl
        intro KE hKE
        go_wp2_with fail
        refine hKE _ _ (hTP' _ (⟨(H15.out.2.1.alloc _).alloc _, (H15.out.1.2.1.alloc _).alloc _⟩)) ?_
        clear hKE KE
        go_wp2_with (first
          | (apply SeqT.skip; rfl; simp only [Act.put, List.setIfInBounds_toArray, List.set_cons_zero, List.set_cons_succ])
          
          | (apply SeqT.pure; rfl; (intro w2 hw; have hw := hTP _ hw; (skip); go_simp; with_reducible rfl); simp only [Act.put, List.setIfInBounds_toArray, List.set_cons_zero, List.set_cons_succ]))
        apply SeqT.done
        refine hKP _ _ (hTP' _ ⟨(H15.out.2.1.alloc _).alloc _, (H15.out.1.2.1.alloc _).alloc _⟩) ?_
        clear hKP hTP hTP'
        go_wp2_with fail
        go_ret2
        rw [HM.out, HS.out]
        exact ⟨HA.out.2.1, H15.out.2.2.1.below HA.out.2.2, H15.out.2.2.2.trans (Kept.ofBelow HA.out.2.2 _ _)⟩
end Go.Proofs.Ytdphfhenjndkkaa
