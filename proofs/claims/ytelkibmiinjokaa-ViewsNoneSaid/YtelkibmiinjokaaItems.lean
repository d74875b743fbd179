/-
  A slice of items, read as a list: each with its outcome's events.
-/
import Derived.Test.YtelkibmiinjokaaWords
import Derived.Test.YtelkibmiinjokaaRowOps
import Derived.Test.YtelkibmiinjokaaEnts
import Derived.Test.YtelkibmiinjokaaViewSpec
set_option linter.unusedSimpArgs false
set_option linter.unusedVariables false
set_option maxRecDepth 100000
namespace Go.Proofs.Ytelkibmiinjokaa
open Go Go.RowKit Go.Sq Go.Wd Go.Arch

abbrev Slc := Option Addr × Nat × Nat
def sv (s : St) : List Value := [.int .i64 s.tag, .bool s.closed, .int .i64 s.sum, .int .i64 s.ver]
def totv (t : Tot) : List Value := [.int .i64 t.s0.tag, .bool t.s0.closed, .int .i64 t.s0.sum, .int .i64 t.s0.ver, .int .i64 t.s1.tag, .bool t.s1.closed, .int .i64 t.s1.sum, .int .i64 t.s1.ver,
  .int .i64 t.s2.tag, .bool t.s2.closed, .int .i64 t.s2.sum, .int .i64 t.s2.ver, .int .i64 t.s3.tag, .bool t.s3.closed, .int .i64 t.s3.sum, .int .i64 t.s3.ver, .int .i64 t.acc, .int .i64 t.con, .int .i64 t.rej, .int .i64 t.sum]
def itv (x : Itm) : List Value := [.int .i64 x.stream, .int .i64 x.index, .int .i64 x.id, .int .i64 x.st, .int .i64 x.ex, .int .i64 x.kd, .int .i64 x.ar, .int .i64 x.code, .int .i64 x.ver, .slice x.sl.1 x.sl.2.1 x.sl.2.2]

/-- The slice holds these events, below block B. -/
def EvsAt (w : World) (B : Nat) (sl : Slc) (l : List (Int × Int)) : Prop :=
  sl.2.1 = l.length ∧ l.length ≤ sl.2.2 ∧ sl.2.2 ≤ 9223372036854775807 ∧ (0 < l.length → ∃ b o, sl.1 = some ⟨b, o, none⟩ ∧ b < B ∧
    ∀ i e, l[i]? = some e → w.cell? ⟨b, o + i * 2, none⟩ = some (.int .i64 e.1) ∧ w.cell? ⟨b, o + i * 2 + 1, none⟩ = some (.int .i64 e.2))
/-- The ten cells of an item. -/
def ItAt (w : World) (b o : Nat) (x : Itm) : Prop :=
  w.cell? ⟨b, o, none⟩ = some (.int .i64 x.stream) ∧ w.cell? ⟨b, o + 1, none⟩ = some (.int .i64 x.index) ∧ w.cell? ⟨b, o + 2, none⟩ = some (.int .i64 x.id) ∧ w.cell? ⟨b, o + 3, none⟩ = some (.int .i64 x.st) ∧
  w.cell? ⟨b, o + 4, none⟩ = some (.int .i64 x.ex) ∧ w.cell? ⟨b, o + 5, none⟩ = some (.int .i64 x.kd) ∧ w.cell? ⟨b, o + 6, none⟩ = some (.int .i64 x.ar) ∧ w.cell? ⟨b, o + 7, none⟩ = some (.int .i64 x.code) ∧
  w.cell? ⟨b, o + 8, none⟩ = some (.int .i64 x.ver) ∧ w.cell? ⟨b, o + 9, none⟩ = some (.slice x.sl.1 x.sl.2.1 x.sl.2.2)
def Items (w : World) (B : Nat) (A : Option Addr) (l : List Itm) : Prop :=
  (∀ x ∈ l, EvsAt w B x.sl x.evs) ∧ (0 < l.length → ∃ b off, A = some ⟨b, off, none⟩ ∧ b < B ∧ ∀ i x, l[i]? = some x → ItAt w b (off + i * 10) x)

section
variable {w w' : World} {B B' : Nat} {A : Option Addr} {l : List Itm} {sl : Slc} {evs : List (Int × Int)}
theorem EvsAt.below (h : EvsAt w B sl evs) (hb : Below B w w') : EvsAt w' B sl evs := by
  obtain ⟨h1, h2, h3, h4⟩ := h
  refine ⟨h1, h2, h3, fun hl => ?_⟩
  obtain ⟨b, o, ha, hB, hc⟩ := h4 hl
  exact ⟨b, o, ha, hB, fun i e he => ⟨(hb.cell (p := ⟨b, _, none⟩) hB).trans (hc i e he).1, (hb.cell (p := ⟨b, _, none⟩) hB).trans (hc i e he).2⟩⟩
theorem EvsAt.more (h : EvsAt w B sl evs) (hB : B ≤ B') : EvsAt w B' sl evs := by
  obtain ⟨h1, h2, h3, h4⟩ := h
  refine ⟨h1, h2, h3, fun hl => ?_⟩
  obtain ⟨b, o, ha, hb, hc⟩ := h4 hl
  exact ⟨b, o, ha, by omega, hc⟩
theorem EvsAt.at_ (h : EvsAt w B sl evs) {k : Nat} (hk : k < evs.length) : ∃ b o e, sl.1 = some ⟨b, o, none⟩ ∧ Hid (evs[k]? = some e) ∧
    ∀ w', Below B w w' → w'.cell? ⟨b, o + k * 2, none⟩ = some (.int .i64 e.1) ∧ w'.cell? ⟨b, o + k * 2 + 1, none⟩ = some (.int .i64 e.2) := by
  obtain ⟨b, o, ha, hb, hc⟩ := h.2.2.2 (by omega)
  refine ⟨b, o, _, ha, Lib.hid (List.getElem?_eq_getElem hk), fun w' hb' => ?_⟩
  have := hc k _ (List.getElem?_eq_getElem hk)
  exact ⟨(hb'.cell (p := ⟨b, _, none⟩) hb).trans this.1, (hb'.cell (p := ⟨b, _, none⟩) hb).trans this.2⟩
theorem ItAt.below {b o : Nat} {x : Itm} (h : ItAt w b o x) (hb : Below B w w') (hB : b < B) : ItAt w' b o x := by
  obtain ⟨h0, h1, h2, h3, h4, h5, h6, h7, h8, h9⟩ := h
  have k : ∀ i v, w.cell? ⟨b, i, none⟩ = some v → w'.cell? ⟨b, i, none⟩ = some v := fun i v h => (hb.cell (p := ⟨b, _, none⟩) hB).trans h
  exact ⟨k _ _ h0, k _ _ h1, k _ _ h2, k _ _ h3, k _ _ h4, k _ _ h5, k _ _ h6, k _ _ h7, k _ _ h8, k _ _ h9⟩
theorem Items.below (h : Items w B A l) (hb : Below B w w') : Items w' B A l := ⟨fun x hx => (h.1 x hx).below hb, fun hl => by
  obtain ⟨b, off, ha, hB, hc⟩ := h.2 hl
  exact ⟨b, off, ha, hB, fun i e he => (hc i e he).below hb hB⟩⟩
theorem Items.more (h : Items w B A l) (hB : B ≤ B') : Items w B' A l := ⟨fun x hx => (h.1 x hx).more hB, fun hl => by
  obtain ⟨b, off, ha, hb, hc⟩ := h.2 hl
  exact ⟨b, off, ha, by omega, hc⟩⟩
theorem Items.take (h : Items w B A l) (n : Nat) : Items w B A (l.take n) := ⟨fun x hx => h.1 x (List.mem_of_mem_take hx), fun hl => by
  obtain ⟨b, off, ha, hb, hc⟩ := h.2 (by simp at hl; omega)
  refine ⟨b, off, ha, hb, fun i e he => hc i e ?_⟩
  rw [List.getElem?_take] at he
  split at he
  · exact he
  · cases he⟩
theorem Items.at_ (h : Items w B A l) {k : Nat} (hk : k < l.length) : ∃ b off x, A = some ⟨b, off, none⟩ ∧ Hid (l[k]? = some x) ∧ (∀ w', Below B w w' → ItAt w' b (off + k * 10) x) ∧ Hid (EvsAt w B x.sl x.evs) := by
  obtain ⟨b, off, ha, hb, hc⟩ := h.2 (by omega)
  exact ⟨b, off, _, ha, Lib.hid (List.getElem?_eq_getElem hk), fun w' hb' => (hc k _ (List.getElem?_eq_getElem hk)).below hb' hb, Lib.hid (h.1 _ (List.getElem_mem hk))⟩
end

theorem foldEv_snoc {s : St} {l : List (Int × Int)} {j : Nat} {e : Int × Int} (h : l[j]? = some e) : foldEv s (l.take (j + 1)) = applyS (foldEv s (l.take j)) ⟨e.1, e.2⟩ := by
  rw [List.take_add_one, h]
  simp [foldEv]
/-- What a round of Step holds on to. -/
def SI (w0 w : World) (t : Tot) (x : Itm) (s : St) : Prop :=
  Below w0.heap.size w0 w ∧ Blk w w0.heap.size 51 (totv t) ∧ Blk w (w0.heap.size + 1) 69 (itv x) ∧ Blk w (w0.heap.size + 1 + 1) 51 (totv tot0) ∧ Blk w (w0.heap.size + 1 + 1 + 1) 48 (sv s)
theorem SI.start (w : World) (t : Tot) (x : Itm) (s : St) : SI w ((((w.alloc (.cells (totv t).toArray 51)).alloc (.cells (itv x).toArray 69)).alloc (.cells (totv tot0).toArray 51)).alloc (.cells (sv s).toArray 48)) t x s :=
  ⟨((((Below.refl _ _).alloc (Nat.le_refl _) _).alloc (by simp) _).alloc (by first | (simp; done) | (simp; omega)) _).alloc (by first | (simp; done) | (simp; omega)) _, (((Blk.new w _ (totv t)).alloc _).alloc _).alloc _, ((Blk.newAt _ _ (itv x) (by simp)).alloc _).alloc _, (Blk.newAt _ _ (totv tot0) (by simp)).alloc _, Blk.newAt _ _ (sv s) (by simp)⟩
theorem SI.keep {w0 w w' : World} {t : Tot} {x : Itm} {s : St} (h : SI w0 w t x s) (hb : Below w.heap.size w w') : SI w0 w' t x s :=
  ⟨below_trans h.1 hb h.1.size, h.2.1.keep hb, h.2.2.1.keep hb, h.2.2.2.1.keep hb, h.2.2.2.2.keep hb⟩
theorem SI.put {w0 w : World} {t : Tot} {x : Itm} {s s' : St} (h : SI w0 w t x s) : SI w0 ((((w.setCell ⟨w0.heap.size + 1 + 1 + 1, 0, none⟩ (.int .i64 s'.tag)).setCell ⟨w0.heap.size + 1 + 1 + 1, 1, none⟩ (.bool s'.closed)).setCell ⟨w0.heap.size + 1 + 1 + 1, 2, none⟩ (.int .i64 s'.sum)).setCell ⟨w0.heap.size + 1 + 1 + 1, 3, none⟩ (.int .i64 s'.ver)) t x s' := by
  obtain ⟨hw, h0, h1, h2, h3⟩ := h
  refine ⟨by (repeat (first | with_reducible apply Below.drew | with_reducible refine Below.setCell ?_ (by first | exact Nat.le_refl _ | (simp; done) | (simp; omega) | omega) _ | with_reducible refine Below.alloc ?_ (by first | exact Nat.le_refl _ | (simp; done) | (simp; omega) | omega) _ | with_reducible exact Below.refl _ _ | with_reducible assumption)), ?_, ?_, ?_, ((((h3.set 0 (.int .i64 s'.tag)).set 1 (.bool s'.closed)).set 2 (.int .i64 s'.sum)).set 3 (.int .i64 s'.ver)).of_eq rfl⟩
  · exact (((h0.far (by first | (simp; done) | (simp; omega)) _).far (by first | (simp; done) | (simp; omega)) _).far (by first | (simp; done) | (simp; omega)) _).far (by first | (simp; done) | (simp; omega)) _
  · exact (((h1.far (by first | (simp; done) | (simp; omega)) _).far (by first | (simp; done) | (simp; omega)) _).far (by first | (simp; done) | (simp; omega)) _).far (by first | (simp; done) | (simp; omega)) _
  · exact (((h2.far (by first | (simp; done) | (simp; omega)) _).far (by simp) _).far (by simp) _).far (by simp) _
theorem tot_info : (Try.prog.info? 51).map (·.size) = some 20 := by kernel_rfl
theorem it_info : (Try.prog.info? 69).map (·.size) = some 10 := by kernel_rfl
theorem totv_one (t : Tot) : ∀ v ∈ totv t, v.oneCell' = true := by simp [totv, Value.oneCell']
theorem totv_len (t : Tot) : (totv t).length = 20 := rfl
end Go.Proofs.Ytelkibmiinjokaa
