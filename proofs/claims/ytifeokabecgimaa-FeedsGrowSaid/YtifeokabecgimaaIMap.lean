/-
  A map[int]V whose values are held as they are: G says what it maps each number to.
-/
import Derived.Test.YtifeokabecgimaaSeq
import Derived.Maps.OwnSet
set_option linter.unusedSimpArgs false
set_option linter.unusedVariables false
set_option maxRecDepth 100000
namespace Go.Im
open Go Go.RowKit Go.MapKept Go.Maps

/-- How a value is held. -/
def heldR (v : Value) : Option (DataW Value × List MemPlace) := some (DataW.held v, [])

/-- THE MAP IN BLOCK m, OF INT KEYS, IS G (of at most n entries). -/
def IMap (P : Program) (k : TypeId) (w : World) (m n : Nat) (G : Int → Option Value) : Prop :=
  ∃ D, w.ownsMap P k heldR m n D ∧ ∀ a, Maps.has D (.int .i64 a) = (G a).isSome ∧ ∀ v, G a = some v → ∀ z, D.atKey (.int .i64 a) z = DataW.held v

/-- G with v at a. -/
def upd (G : Int → Option Value) (a : Int) (v : Value) : Int → Option Value := fun x => if x = a then some v else G x
/-- G without a. -/
def cut (G : Int → Option Value) (a : Int) : Int → Option Value := fun x => if x = a then none else G x

section
variable {P : Program} {k t e : TypeId} {w : World} {m n : Nat} {G : Int → Option Value}

theorem IMap.of_block (h : IMap P k w m n G) {w' : World} (hb : w'.heap[m]? = w.heap[m]?) : IMap P k w' m n G := by
  obtain ⟨D, ⟨es, clock, h1, r⟩, hG⟩ := h
  exact ⟨D, ⟨es, clock, hb.trans h1, r⟩, hG⟩

theorem IMap.lt (h : IMap P k w m n G) : m < w.heap.size := by
  obtain ⟨D, h1, _⟩ := h
  exact h1.lt

theorem IMap.mono (h : IMap P k w m n G) {n' : Nat} (hn : n ≤ n') : IMap P k w m n' G := by
  obtain ⟨D, h1, hG⟩ := h
  exact ⟨D, h1.mono hn, hG⟩

theorem IMap.below (h : IMap P k w m n G) {B : Nat} {w' : World} (hB : Below B w w') (hm : m < B) : IMap P k w' m n G :=
  h.of_block (hB.block m hm)

theorem IMap.alloc (h : IMap P k w m n G) (o : Obj) : IMap P k (w.alloc o) m n G := by
  obtain ⟨D, h1, hG⟩ := h
  exact ⟨D, h1.alloc o, hG⟩

theorem IMap.setCell (h : IMap P k w m n G) {a : Addr} (ha : m ≠ a.block) (u : Value) : IMap P k (w.setCell a u) m n G := by
  obtain ⟨D, h1, hG⟩ := h
  exact ⟨D, h1.setCell ha u, hG⟩

theorem IMap.drew (h : IMap P k w m n G) : IMap P k w.drew m n G := h

theorem IMap.made (P : Program) (k : TypeId) (w : World) : IMap P k (w.alloc (.map #[] 0)) w.heap.size 0 (fun _ => none) :=
  ⟨.map [], World.ownsMap_made w P k heldR, fun a => ⟨rfl, fun v h => by cases h⟩⟩

theorem IMap.look_ok (h : IMap P k w m n G) (hk : P.underlying k = some (.int .i64)) (ht : P.underlying t = some (.map k e)) {z : Value} (hz : (zeroValue e).run P w = .ok z w)
    {a : Int} (ha : (Lit.int .i64 a).wf = true) : (Instr.lookup t (.map (some m)) (.int .i64 a) true).run P w = .ok (.tuple #[(G a).getD z, .bool (G a).isSome]) w := by
  obtain ⟨D, h1, hG⟩ := h
  obtain ⟨v, ps, hrun, hv⟩ := h1.look_ok (int_keyed hk) ht hz (zd := DataW.held z) (zp := []) rfl (keyOf_int_mk hk ha)
  rw [hrun, (hG a).1]
  have e1 : DataW.held v = D.atKey (.int .i64 a) (.held z) := by
    have := congrArg (Option.map Prod.fst) hv
    simpa [heldR] using this
  cases hg : G a with
  | none =>
    have e2 := Maps.atKey_of_not_has (D := D) (k := .int .i64 a) (by rw [(hG a).1, hg]; rfl) (DataW.held z)
    rw [e2] at e1
    cases e1
    rfl
  | some x =>
    rw [(hG a).2 x hg] at e1
    cases e1
    rfl

theorem IMap.look (h : IMap P k w m n G) (hk : P.underlying k = some (.int .i64)) (ht : P.underlying t = some (.map k e)) {z : Value} (hz : (zeroValue e).run P w = .ok z w)
    {a : Int} (ha : (Lit.int .i64 a).wf = true) : (Instr.lookup t (.map (some m)) (.int .i64 a) false).run P w = .ok ((G a).getD z) w := by
  obtain ⟨D, h1, hG⟩ := h
  obtain ⟨v, ps, hrun, hv⟩ := h1.lookup (int_keyed hk) ht hz (zd := DataW.held z) (zp := []) rfl (keyOf_int_mk hk ha)
  rw [hrun]
  have e1 : DataW.held v = D.atKey (.int .i64 a) (.held z) := by
    have := congrArg (Option.map Prod.fst) hv
    simpa [heldR] using this
  cases hg : G a with
  | none =>
    have e2 := Maps.atKey_of_not_has (D := D) (k := .int .i64 a) (by rw [(hG a).1, hg]; rfl) (DataW.held z)
    rw [e2] at e1
    cases e1
    rfl
  | some x =>
    rw [(hG a).2 x hg] at e1
    cases e1
    rfl

theorem isKey_int (a : Int) : WideAt.IsKeyLit (.int .i64 a) := by trivial

theorem IMap.store (h : IMap P k w m n G) (hk : P.underlying k = some (.int .i64)) (ht : P.underlying t = some (.map k e)) (hn : n < maxLen)
    {a : Int} (ha : (Lit.int .i64 a).wf = true) (v : Value) :
    ∃ w', (Instr.mapUpdate t (.map (some m)) (.int .i64 a) v).run P w = .ok () w' ∧ IMap P k w' m (n + 1) (upd G a v) ∧ w.mapTurned w' m := by
  obtain ⟨D, h1, hG⟩ := h
  obtain ⟨w', hrun, h2, h3⟩ := h1.store (int_keyed hk) ht hn (d := DataW.held v) (ps := []) (keyOf_int_mk hk ha) rfl
  refine ⟨w', hrun, ⟨_, h2, fun x => ?_⟩, h3⟩
  by_cases hx : x = a
  · subst hx
    refine ⟨?_, fun y hy z => ?_⟩
    · rw [Maps.has_put_same h1.isMap (isKey_int x)]; simp [upd]
    · rw [Maps.atKey_put_same h1.isMap (isKey_int x)]; simp [upd] at hy; rw [hy]
  · have hne : (Lit.int .i64 x) ≠ Lit.int .i64 a := fun e => hx (by cases e; rfl)
    refine ⟨?_, fun y hy z => ?_⟩
    · rw [Maps.has_put_other hne]; simp [upd, hx, (hG x).1]
    · rw [Maps.atKey_put_other hne]
      exact (hG x).2 y (by simpa [upd, hx] using hy) z

theorem IMap.drop (h : IMap P k w m n G) (hk : P.underlying k = some (.int .i64)) (ht : P.underlying t = some (.map k e))
    {a : Int} (ha : (Lit.int .i64 a).wf = true) (ty : TypeId) :
    ∃ w', (Builtin.delete_ #[t, k] ty #[.map (some m), .int .i64 a]).run P w = .ok (.tuple #[]) w' ∧ IMap P k w' m n (cut G a) ∧ w.mapTurned w' m := by
  obtain ⟨D, h1, hG⟩ := h
  obtain ⟨w', hrun, h2, h3⟩ := h1.drop (int_keyed hk) ht (keyOf_int_mk hk ha) ty
  refine ⟨w', hrun, ⟨_, h2, fun x => ?_⟩, h3⟩
  by_cases hx : x = a
  · subst hx
    refine ⟨?_, fun y hy z => ?_⟩
    · rw [Maps.has_del_same]; simp [cut]
    · simp [cut] at hy
  · have hne : (Lit.int .i64 x) ≠ Lit.int .i64 a := fun e => hx (by cases e; rfl)
    refine ⟨?_, fun y hy z => ?_⟩
    · rw [Maps.has_del_other hne]; simp [cut, hx, (hG x).1]
    · rw [Maps.atKey_del_other hne]
      exact (hG x).2 y (by simpa [cut, hx] using hy) z

end
end Go.Im
