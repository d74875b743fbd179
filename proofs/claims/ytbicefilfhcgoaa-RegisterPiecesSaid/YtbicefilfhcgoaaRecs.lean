/-
  Records, and a slice of them, read as a list.
-/
import Derived.Test.YtbicefilfhcgoaaRegSpec
import Derived.Test.YtbicefilfhcgoaaRowOps
set_option linter.unusedSimpArgs false
set_option linter.unusedVariables false
set_option maxRecDepth 100000
namespace Go.Proofs.Ytbicefilfhcgoaa
open Go Go.RowKit Go.Sq Go.Wd Go.Arch

abbrev SlcE := Option Addr × Nat × Nat
structure RecV where
  kind : Int
  stream : Int
  epoch : Int
  view : Int
  from_ : Int
  len : Int
  es : SlcE
  ents : List Ent
  fs : SlcE
def RecV.s (x : RecV) : RecS := ⟨x.kind, x.stream, x.epoch, x.view, x.from_, x.len, x.ents⟩
def rcv (x : RecV) : List Value := [.int .i64 x.kind, .int .i64 x.stream, .int .i64 x.epoch, .int .i64 x.view, .int .i64 x.from_, .int .i64 x.len, .slice x.es.1 x.es.2.1 x.es.2.2, .slice x.fs.1 x.fs.2.1 x.fs.2.2]
/-- A slice of entries holds this log. -/
def LogAt (w : World) (B : Nat) (sl : SlcE) (l : List Ent) : Prop := sl.2.1 = l.length ∧ l.length ≤ sl.2.2 ∧ sl.2.2 ≤ 9223372036854775807 ∧ Ents w B sl.1 l
def RecAt (w : World) (b o : Nat) (x : RecV) : Prop :=
  w.cell? ⟨b, o, none⟩ = some (.int .i64 x.kind) ∧ w.cell? ⟨b, o + 1, none⟩ = some (.int .i64 x.stream) ∧ w.cell? ⟨b, o + 2, none⟩ = some (.int .i64 x.epoch) ∧ w.cell? ⟨b, o + 3, none⟩ = some (.int .i64 x.view) ∧
  w.cell? ⟨b, o + 4, none⟩ = some (.int .i64 x.from_) ∧ w.cell? ⟨b, o + 5, none⟩ = some (.int .i64 x.len) ∧ w.cell? ⟨b, o + 6, none⟩ = some (.slice x.es.1 x.es.2.1 x.es.2.2) ∧ w.cell? ⟨b, o + 7, none⟩ = some (.slice x.fs.1 x.fs.2.1 x.fs.2.2)
def Recs (w : World) (B : Nat) (A : Option Addr) (l : List RecV) : Prop :=
  (∀ x ∈ l, LogAt w B x.es x.ents) ∧ (0 < l.length → ∃ b off, A = some ⟨b, off, none⟩ ∧ b < B ∧ ∀ i x, l[i]? = some x → RecAt w b (off + i * 8) x)

section
variable {w w' : World} {B B' : Nat} {A : Option Addr} {l : List RecV} {sl : SlcE} {es : List Ent}
theorem LogAt.below (h : LogAt w B sl es) (hb : Below B w w') : LogAt w' B sl es := ⟨h.1, h.2.1, h.2.2.1, h.2.2.2.below hb⟩
theorem LogAt.more (h : LogAt w B sl es) (hB : B ≤ B') : LogAt w B' sl es := ⟨h.1, h.2.1, h.2.2.1, h.2.2.2.more hB⟩
theorem LogAt.keep (h : LogAt w w.heap.size sl es) (hb : Below w.heap.size w w') : LogAt w' w'.heap.size sl es := (h.below hb).more hb.size
theorem LogAt.nil : LogAt w B (none, 0, 0) [] := ⟨rfl, Nat.le_refl _, by simp, Ents.nil⟩
theorem RecAt.below {b o : Nat} {x : RecV} (h : RecAt w b o x) (hb : Below B w w') (hB : b < B) : RecAt w' b o x := by
  obtain ⟨h0, h1, h2, h3, h4, h5, h6, h7⟩ := h
  have k : ∀ i v, w.cell? ⟨b, i, none⟩ = some v → w'.cell? ⟨b, i, none⟩ = some v := fun i v h => (hb.cell (p := ⟨b, _, none⟩) hB).trans h
  exact ⟨k _ _ h0, k _ _ h1, k _ _ h2, k _ _ h3, k _ _ h4, k _ _ h5, k _ _ h6, k _ _ h7⟩
theorem Recs.below (h : Recs w B A l) (hb : Below B w w') : Recs w' B A l := ⟨fun x hx => (h.1 x hx).below hb, fun hl => by
  obtain ⟨b, off, ha, hB, hc⟩ := h.2 hl
  exact ⟨b, off, ha, hB, fun i e he => (hc i e he).below hb hB⟩⟩
theorem Recs.more (h : Recs w B A l) (hB : B ≤ B') : Recs w B' A l := ⟨fun x hx => (h.1 x hx).more hB, fun hl => by
  obtain ⟨b, off, ha, hb, hc⟩ := h.2 hl
  exact ⟨b, off, ha, by omega, hc⟩⟩
theorem Recs.at_ (h : Recs w B A l) {k : Nat} (hk : k < l.length) : ∃ b off x, A = some ⟨b, off, none⟩ ∧ Hid (l[k]? = some x) ∧ (∀ w', Below B w w' → RecAt w' b (off + k * 8) x) ∧ Hid (LogAt w B x.es x.ents) := by
  obtain ⟨b, off, ha, hb, hc⟩ := h.2 (by omega)
  exact ⟨b, off, _, ha, Lib.hid (List.getElem?_eq_getElem hk), fun w' hb' => (hc k _ (List.getElem?_eq_getElem hk)).below hb' hb, Lib.hid (h.1 _ (List.getElem_mem hk))⟩
end
/-- A register's cells. -/
def rgv (r : RegS) (sl : SlcE) : List Value := [.int .i64 r.prom, .int .i64 r.view, .slice sl.1 sl.2.1 sl.2.2, .int .i64 r.com]
end Go.Proofs.Ytbicefilfhcgoaa
