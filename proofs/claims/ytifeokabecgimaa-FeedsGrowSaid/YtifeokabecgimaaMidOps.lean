/-
  Loads and stores of a part of a block that is known whole.
-/
import Derived.Test.YtifeokabecgimaaRowOps
import Derived.Deep.MidRow
import Derived.Laws.StructEq
set_option linter.unusedSimpArgs false
set_option linter.unusedVariables false
set_option maxRecDepth 100000
namespace Go.Wd
open Go Go.RowKit

def setAll : List Value → Nat → List Value → List Value
  | cs, _, [] => cs
  | cs, o, v :: r => setAll (cs.set o v) (o + 1) r
theorem Blk.setCells {g : Nat} {t : TypeId} : ∀ (vs : List Value) (o : Nat) (cs : List Value) (w : World), Blk w g t cs → Blk (w.setCells g o vs) g t (setAll cs o vs)
  | [], _, _, _, h => h
  | v :: r, o, cs, w, h => Blk.setCells r (o + 1) (cs.set o v) (w.setCell ⟨g, o, none⟩ v) (h.set o v)
theorem Blk.setCellsFar {g k : Nat} {t : TypeId} {l : List Value} (hk : k ≠ g) : ∀ (vs : List Value) (o : Nat) (w : World), Blk w k t l → Blk (w.setCells g o vs) k t l
  | [], _, _, h => h
  | v :: r, o, w, h => Blk.setCellsFar hk r (o + 1) (w.setCell ⟨g, o, none⟩ v) (h.far (p := ⟨g, o, none⟩) hk v)
theorem below_setCells' {B g : Nat} (hg : B ≤ g) : ∀ (vs : List Value) (o : Nat) (w0 w : World), Below B w0 w → Below B w0 (w.setCells g o vs)
  | [], _, _, _, h => h
  | v :: r, o, w0, w, h => below_setCells' hg r (o + 1) w0 (w.setCell ⟨g, o, none⟩ v) (h.setCell (p := ⟨g, o, none⟩) hg v)

theorem Blk.range {w : World} {g : Nat} {t : TypeId} {all : List Value} (h : Blk w g t all) {o : Nat} {cs : List Value} (hp : ∀ j, j < cs.length → all[o + j]? = cs[j]?) : w.rangeAt g o cs := fun j v hv => by
  have hj := (List.getElem?_eq_some_iff.1 hv).1
  rw [h.cell (o + j), hp j hj]
  exact hv
theorem exec_load_part {P : Program} {w : World} {o : Oper} {a : Act} (ty : TypeId) (x : Operand) (ho : o.op = .load ty x) (g i : Nat) (hx : a.eval x = .pointer (some ⟨g, i, none⟩))
    (t : TypeId) (all cs : List Value) (hg : Blk w g t all) (hp : ∀ j, j < cs.length → all[i + j]? = cs[j]?) (d : TypeDesc) (hu : P.underlying ty = some d) (hd : d.isRow = true) (hi : (P.info? ty).map (·.size) = some cs.length) :
    (execOp a.eval o).run P w = .ok (.value (.agg cs.toArray)) w := by
  unfold execOp
  simp only [ho, hx, Instr.loadAt, Instr.sureAddr, Sem.run_bind, Sem.run_pure, Result.andThen_ok, run_loadVar_mid w g i ty cs d (hg.range hp) hu hd hi]
theorem exec_load_blk {P : Program} {w : World} {o : Oper} {a : Act} (ty : TypeId) (x : Operand) (ho : o.op = .load ty x) (g : Nat) (hx : a.eval x = .pointer (some ⟨g, 0, none⟩))
    (t : TypeId) (cs : List Value) (hg : Blk w g t cs) (d : TypeDesc) (hu : P.underlying ty = some d) (hd : d.isRow = true) (hi : (P.info? ty).map (·.size) = some cs.length) :
    (execOp a.eval o).run P w = .ok (.value (.agg cs.toArray)) w := exec_load_part ty x ho g 0 hx t cs cs hg (fun j _ => by rw [Nat.zero_add]) d hu hd hi
theorem wpList_load_part {P : Program} {w : World} {ops : Array Oper} {rest : List Oper} {o : Oper} {a : Act} {Q : Exit → Act → World → Prop} (hgd : o.guard = none) (ty : TypeId) (x : Operand) (ho : o.op = .load ty x)
    (g i : Nat) (hx : a.eval x = .pointer (some ⟨g, i, none⟩)) (t : TypeId) (all cs : List Value) (hg : Blk w g t all) (hp : ∀ j, j < cs.length → all[i + j]? = cs[j]?) (d : TypeDesc)
    (hu : P.underlying ty = some d) (hd : d.isRow = true) (hi : (P.info? ty).map (·.size) = some cs.length)
    (h : wpList P ops Q rest (a.put o.dst (.agg cs.toArray)) w) : wpList P ops Q (o :: rest) a w :=
  wpList_load_mid hgd ty x ho g i hx cs d (hg.range hp) hu hd hi h
theorem wpList_store_part {P : Program} {w : World} {ops : Array Oper} {rest : List Oper} {o : Oper} {a : Act} {Q : Exit → Act → World → Prop} (hgd : o.guard = none) (ty : TypeId) (x y : Operand) (ho : o.op = .store ty x y)
    (g i : Nat) (cs : List Value) (hx : a.eval x = .pointer (some ⟨g, i, none⟩)) (hy : a.eval y = .agg cs.toArray) (t : TypeId) (all : List Value) (hg : Blk w g t all) (hl : i + cs.length ≤ all.length)
    (hi : (P.info? ty).map (·.size) = some cs.length) (h1 : ∀ v ∈ cs, v.oneCell' = true)
    (h : ∀ w', Blk w' g t (setAll all i cs) → (∀ B, B ≤ g → Below B w w') → (∀ k T l, k ≠ g → Blk w k T l → Blk w' k T l) → wpList P ops Q rest (a.put o.dst undef) w') : wpList P ops Q (o :: rest) a w := by
  refine wpList_store_mid hgd ty x y ho g i cs.toArray hx hy (fun j hj => ⟨?_, hg.frozen _⟩) (by simpa using hi) (all_oneCell_toArray h1) (h _ (hg.setCells cs i all) (fun B hB => below_setCells' hB cs i w w (Below.refl _ _)) (fun k T l hk hb => hb.setCellsFar hk cs i w))
  rw [hg.cell]
  have : i + j < all.length := by simp at hj; omega
  rw [List.getElem?_eq_getElem this]
  rfl
/-- A guarded operation that is wanted. -/
theorem wpList_wanted {P : Program} {ops : Array Oper} {rest : List Oper} {o : Oper} {a : Act} {w : World} {Q : Exit → Act → World → Prop} (hw : Region.wanted o (yielded ops a.tmps) = true)
    (h : ∀ K : Act → World → Prop, (∀ a w, wpList P ops Q rest a w → K a w) → o.wp P a w K Q) : wpList P ops Q (o :: rest) a w :=
  wpList_step fun K hK => by rw [if_pos hw]; exact h K hK
theorem wpList_load_blk_g {P : Program} {w : World} {ops : Array Oper} {rest : List Oper} {o : Oper} {a : Act} {Q : Exit → Act → World → Prop} (ty : TypeId) (x : Operand) (ho : o.op = .load ty x)
    (hw : Region.wanted o (yielded ops a.tmps) = true) (g : Nat) (hx : a.eval x = .pointer (some ⟨g, 0, none⟩)) (t : TypeId) (cs : List Value) (d : TypeDesc) (hg : Blk w g t cs)
    (hu : P.underlying ty = some d) (hd : (match d with | .struct _ | .array _ _ => true | _ => false) = true) (hi : (P.info? ty).map (·.size) = some cs.length)
    (h : wpList P ops Q rest (a.put o.dst (.agg cs.toArray)) w) : wpList P ops Q (o :: rest) a w :=
  wpList_wanted hw fun _ hK => wp_load_row ty x ho g hx t cs.toArray (0, 0) d hg hu hd (by simpa using hi) (hK _ _ h)
theorem wpList_agg_g {P : Program} {w : World} {ops : Array Oper} {rest : List Oper} {o : Oper} {a : Act} {Q : Exit → Act → World → Prop} {op : BinOp} {t : TypeId} {x y : Operand} {xs ys : Array Value} {v : Value}
    (ho : o.op = .binOp op t x y t) (hw : Region.wanted o (yielded ops a.tmps) = true) (hm : P.eqGuardType P.depth t = false) (hx : a.eval x = .agg xs) (hy : a.eval y = .agg ys) (hrun : (binOp op t (.agg xs) (.agg ys)).run P w = .ok v w)
    (h : wpList P ops Q rest (a.put o.dst v) w) : wpList P ops Q (o :: rest) a w :=
  wpList_wanted hw fun _ hK => by
    unfold Oper.wp execOp
    simp only [ho, hx, hy, Sem.run_bind, run_eqGuard_agg w op t x y xs ys hm, Result.andThen_ok, hrun, Sem.run_pure]
    exact hK _ _ h
theorem wp_store_blk {P : Program} {w : World} {o : Oper} {a : Act} {K : Act → World → Prop} {Q : Exit → Act → World → Prop} (ty : TypeId) (x y : Operand) (ho : o.op = .store ty x y)
    (g : Nat) (cs : List Value) (hx : a.eval x = .pointer (some ⟨g, 0, none⟩)) (hy : a.eval y = .agg cs.toArray) (t : TypeId) (old : List Value) (hg : Blk w g t old)
    (hi : (P.info? ty).map (·.size) = some cs.length) (hold : old.length = cs.length) (h1 : ∀ v ∈ cs, v.oneCell' = true)
    (h : ∀ w', Blk w' g t cs → (∀ B, B ≤ g → Below B w w') → (∀ k T l, k ≠ g → Blk w k T l → Blk w' k T l) → K (a.put o.dst undef) w') : o.wp P a w K Q :=
  wp_store_row ty x y ho g cs.toArray hx hy t old.toArray hg (by simpa using hi) (by simpa using hold)
    (Array.all_eq_true_iff_forall_mem.2 (fun v hv => h1 v (by simpa using hv)))
    (h _ (hg.row cs) (fun B hB => below_setRow (Below.refl B w) hB _) (fun k T l hk hb => hb.rowFar hk _))
end Go.Wd
