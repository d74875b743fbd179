/-
  A map whose keys are numbers in some dress (an int, a struct of one int), whose values are held as they are.
-/
import Derived.Test.YtifeokabecgimaaSeq
import Derived.Maps.OwnSet
set_option linter.unusedSimpArgs false
set_option linter.unusedVariables false
set_option maxRecDepth 100000
namespace Go.Km
open Go Go.RowKit Go.MapKept Go.Maps

/-- How a value is held. -/
def heldR (v : Value) : Option (DataW Value × List MemPlace) := some (DataW.held v, [])

/-- How a number is a key. -/
structure Dress (P : Program) (k : TypeId) where
  val : Int → Value
  lit : Int → Lit
  keyed : Keyed P k
  key : ∀ a, (Lit.int .i64 a).wf = true → keyOf P k (val a) = some (lit a)
  inj : ∀ a b, val a = val b → a = b

theorem Dress.ne {P : Program} {k : TypeId} (F : Dress P k) {a b : Int} (ha : (Lit.int .i64 a).wf = true) (hb : (Lit.int .i64 b).wf = true) (h : a ≠ b) : F.lit a ≠ F.lit b := by
  intro e
  have h1 := F.key a ha
  have h2 := F.key b hb
  rw [e] at h1
  exact h (F.inj _ _ (F.keyed.inj h1 h2))

/-- THE MAP IN BLOCK m IS G (of at most n entries). -/
def KMap (P : Program) {k : TypeId} (F : Dress P k) (w : World) (m n : Nat) (G : Int → Option Value) : Prop :=
  ∃ D, w.ownsMap P k heldR m n D ∧ ∀ a, (Lit.int .i64 a).wf = true → Maps.has D (F.lit a) = (G a).isSome ∧ ∀ v, G a = some v → ∀ z, D.atKey (F.lit a) z = DataW.held v

/-- G with v at a. -/
def upd (G : Int → Option Value) (a : Int) (v : Value) : Int → Option Value := fun x => if x = a then some v else G x
/-- G without a. -/
def cut (G : Int → Option Value) (a : Int) : Int → Option Value := fun x => if x = a then none else G x

section
variable {P : Program} {k t e : TypeId} {F : Dress P k} {w : World} {m n : Nat} {G : Int → Option Value}

theorem KMap.of_block (h : KMap P F w m n G) {w' : World} (hb : w'.heap[m]? = w.heap[m]?) : KMap P F w' m n G := by
  obtain ⟨D, ⟨es, clock, h1, r⟩, hG⟩ := h
  exact ⟨D, ⟨es, clock, hb.trans h1, r⟩, hG⟩

theorem KMap.lt (h : KMap P F w m n G) : m < w.heap.size := by
  obtain ⟨D, h1, _⟩ := h
  exact h1.lt

theorem KMap.mono (h : KMap P F w m n G) {n' : Nat} (hn : n ≤ n') : KMap P F w m n' G := by
  obtain ⟨D, h1, hG⟩ := h
  exact ⟨D, h1.mono hn, hG⟩

theorem KMap.below (h : KMap P F w m n G) {B : Nat} {w' : World} (hB : Below B w w') (hm : m < B) : KMap P F w' m n G :=
  h.of_block (hB.block m hm)

theorem KMap.alloc (h : KMap P F w m n G) (o : Obj) : KMap P F (w.alloc o) m n G := by
  obtain ⟨D, h1, hG⟩ := h
  exact ⟨D, h1.alloc o, hG⟩

theorem KMap.setCell (h : KMap P F w m n G) {a : Addr} (ha : m ≠ a.block) (u : Value) : KMap P F (w.setCell a u) m n G := by
  obtain ⟨D, h1, hG⟩ := h
  exact ⟨D, h1.setCell ha u, hG⟩

theorem KMap.drew (h : KMap P F w m n G) : KMap P F w.drew m n G := h

theorem KMap.made (P : Program) {k : TypeId} (F : Dress P k) (w : World) : KMap P F (w.alloc (.map #[] 0)) w.heap.size 0 (fun _ => none) :=
  ⟨.map [], World.ownsMap_made w P k heldR, fun a _ => ⟨rfl, fun v h => by cases h⟩⟩

theorem KMap.look_ok (h : KMap P F w m n G) (ht : P.underlying t = some (.map k e)) {z : Value} (hz : (zeroValue e).run P w = .ok z w)
    {a : Int} (ha : (Lit.int .i64 a).wf = true) : (Instr.lookup t (.map (some m)) (F.val a) true).run P w = .ok (.tuple #[(G a).getD z, .bool (G a).isSome]) w := by
  obtain ⟨D, h1, hG⟩ := h
  obtain ⟨v, ps, hrun, hv⟩ := h1.look_ok F.keyed ht hz (zd := DataW.held z) (zp := []) rfl (F.key a ha)
  rw [hrun, (hG a ha).1]
  have e1 : DataW.held v = D.atKey (F.lit a) (.held z) := by
    have := congrArg (Option.map Prod.fst) hv
    simpa [heldR] using this
  cases hg : G a with
  | none =>
    have e2 := Maps.atKey_of_not_has (D := D) (k := F.lit a) (by rw [(hG a ha).1, hg]; rfl) (DataW.held z)
    rw [e2] at e1
    cases e1
    rfl
  | some x =>
    rw [(hG a ha).2 x hg] at e1
    cases e1
    rfl

theorem KMap.look (h : KMap P F w m n G) (ht : P.underlying t = some (.map k e)) {z : Value} (hz : (zeroValue e).run P w = .ok z w)
    {a : Int} (ha : (Lit.int .i64 a).wf = true) : (Instr.lookup t (.map (some m)) (F.val a) false).run P w = .ok ((G a).getD z) w := by
  obtain ⟨D, h1, hG⟩ := h
  obtain ⟨v, ps, hrun, hv⟩ := h1.lookup F.keyed ht hz (zd := DataW.held z) (zp := []) rfl (F.key a ha)
  rw [hrun]
  have e1 : DataW.held v = D.atKey (F.lit a) (.held z) := by
    have := congrArg (Option.map Prod.fst) hv
    simpa [heldR] using this
  cases hg : G a with
  | none =>
    have e2 := Maps.atKey_of_not_has (D := D) (k := F.lit a) (by rw [(hG a ha).1, hg]; rfl) (DataW.held z)
    rw [e2] at e1
    cases e1
    rfl
  | some x =>
    rw [(hG a ha).2 x hg] at e1
    cases e1
    rfl

theorem KMap.store (h : KMap P F w m n G) (ht : P.underlying t = some (.map k e)) (hn : n < maxLen)
    {a : Int} (ha : (Lit.int .i64 a).wf = true) (v : Value) :
    ∃ w', (Instr.mapUpdate t (.map (some m)) (F.val a) v).run P w = .ok () w' ∧ KMap P F w' m (n + 1) (upd G a v) ∧ w.mapTurned w' m := by
  obtain ⟨D, h1, hG⟩ := h
  obtain ⟨w', hrun, h2, h3⟩ := h1.store F.keyed ht hn (d := DataW.held v) (ps := []) (F.key a ha) rfl
  refine ⟨w', hrun, ⟨_, h2, fun x hxw => ?_⟩, h3⟩
  by_cases hx : x = a
  · subst hx
    refine ⟨?_, fun y hy z => ?_⟩
    · rw [Maps.has_put_same h1.isMap (F.keyed.key (F.key x hxw))]; simp [upd]
    · rw [Maps.atKey_put_same h1.isMap (F.keyed.key (F.key x hxw))]; simp [upd] at hy; rw [hy]
  · have hne : F.lit x ≠ F.lit a := F.ne hxw ha hx
    refine ⟨?_, fun y hy z => ?_⟩
    · rw [Maps.has_put_other hne]; simp [upd, hx, (hG x hxw).1]
    · rw [Maps.atKey_put_other hne]
      exact (hG x hxw).2 y (by simpa [upd, hx] using hy) z

theorem KMap.drop (h : KMap P F w m n G) (ht : P.underlying t = some (.map k e))
    {a : Int} (ha : (Lit.int .i64 a).wf = true) (ty : TypeId) :
    ∃ w', (Builtin.delete_ #[t, k] ty #[.map (some m), F.val a]).run P w = .ok (.tuple #[]) w' ∧ KMap P F w' m n (cut G a) ∧ w.mapTurned w' m := by
  obtain ⟨D, h1, hG⟩ := h
  obtain ⟨w', hrun, h2, h3⟩ := h1.drop F.keyed ht (F.key a ha) ty
  refine ⟨w', hrun, ⟨_, h2, fun x hxw => ?_⟩, h3⟩
  by_cases hx : x = a
  · subst hx
    refine ⟨?_, fun y hy z => ?_⟩
    · rw [Maps.has_del_same]; simp [cut]
    · simp [cut] at hy
  · have hne : F.lit x ≠ F.lit a := F.ne hxw ha hx
    refine ⟨?_, fun y hy z => ?_⟩
    · rw [Maps.has_del_other hne]; simp [cut, hx, (hG x hxw).1]
    · rw [Maps.atKey_del_other hne]
      exact (hG x hxw).2 y (by simpa [cut, hx] using hy) z

end
end Go.Km
