/-
  What feeds come to, in plain Lean; how spots, orders, events and items lie.
-/
import Derived.Test.YtifeokabecgimaaGRow
import Derived.Test.YtifeokabecgimaaOuts
import Derived.Test.YtifeokabecgimaaFoldFind
set_option linter.unusedSimpArgs false
set_option linter.unusedVariables false
set_option maxRecDepth 100000
namespace Go.Proofs.Ytifeokabecgimaa
open Go Go.RowKit Go.Sq Go.Wd Go.Arch

abbrev Spt := Int × Int
abbrev IA := Spt × Ord × OutS
/-- The logs of all streams. -/
abbrev Logs4 := Nat → List Ent
def cntS (l : List Spt) (s : Int) : Nat := l.countP fun p => decide (p.1 = s)
def goodS (M : Logs4) (l : List Spt) (j : Nat) (p : Spt) : Prop := 0 ≤ p.1 ∧ p.1 < 4 ∧ p.2 = cntS (l.take j) p.1 ∧ p.2 < ((M p.1.toNat).length : Int)
instance (M : Logs4) (l : List Spt) (j : Nat) (p : Spt) : Decidable (goodS M l j p) := by unfold goodS; infer_instance
def noOut : OutS := (0, 0, [])
def itemA (M : Logs4) (p : Spt) : IA := (p, ordOf ((M p.1.toNat).getD p.2.toNat (0, 0, 0, 0, 0, 0)), (foldS (M p.1.toNat)).2.getD p.2.toNat noOut)
def itemsTo (M : Logs4) (l : List Spt) : Nat → Option (List IA)
  | 0 => some []
  | j + 1 => match itemsTo M l j, l[j]? with
    | some r, some p => if goodS M l j p then some (r ++ [itemA M p]) else none
    | _, _ => none
def fits4 (M : Logs4) : Prop := (M 0).length ≤ 64 ∧ (M 1).length ≤ 64 ∧ (M 2).length ≤ 64 ∧ (M 3).length ≤ 64
instance (M : Logs4) : Decidable (fits4 M) := by unfold fits4; infer_instance
def itemsS (M : Logs4) (l : List Spt) : Option (List IA) := if fits4 M then itemsTo M l l.length else none

theorem to_succ {M : Logs4} {l : List Spt} {j : Nat} {r : List IA} {p : Spt} (h : itemsTo M l j = some r) (hp : l[j]? = some p) (hg : goodS M l j p) : itemsTo M l (j + 1) = some (r ++ [itemA M p]) := by
  conv => lhs; unfold itemsTo
  rw [h, hp]
  exact if_pos hg
theorem to_bad {M : Logs4} {l : List Spt} {j : Nat} {p : Spt} (hp : l[j]? = some p) (hg : ¬ goodS M l j p) : itemsTo M l (j + 1) = none := by
  conv => lhs; unfold itemsTo
  rw [hp]
  cases itemsTo M l j with
  | none => rfl
  | some r => exact if_neg hg
theorem to_none {M : Logs4} {l : List Spt} {j : Nat} (h : itemsTo M l j = none) : ∀ k, itemsTo M l (j + k) = none
  | 0 => h
  | k + 1 => by
    have := to_none h k
    rw [← Nat.add_assoc]
    conv => lhs; unfold itemsTo
    rw [this]
theorem all_bad {M : Logs4} {l : List Spt} {j : Nat} {p : Spt} (hp : l[j]? = some p) (hg : ¬ goodS M l j p) : itemsTo M l l.length = none := by
  have hj := (List.getElem?_eq_some_iff.1 hp).1
  have := to_none (to_bad hp hg) (l.length - (j + 1))
  rw [show j + 1 + (l.length - (j + 1)) = l.length by omega] at this
  exact this
theorem cnt_succ {l : List Spt} {j : Nat} {p : Spt} (hp : l[j]? = some p) (s : Int) : cntS (l.take (j + 1)) s = cntS (l.take j) s + (if p.1 = s then 1 else 0) := by
  unfold cntS
  rw [List.take_add_one, hp, List.countP_append]
  simp [List.countP_cons]
theorem cnt_le (l : List Spt) (j : Nat) (s : Int) : cntS (l.take j) s ≤ j := by
  unfold cntS
  have h := List.countP_le_length (p := fun p : Spt => decide (p.1 = s)) (l := l.take j)
  rw [List.length_take] at h
  omega
theorem to_len {M : Logs4} {l : List Spt} : ∀ {j : Nat} {r : List IA}, itemsTo M l j = some r → r.length = j ∧ j ≤ l.length
  | 0, r, h => by cases h; exact ⟨rfl, Nat.zero_le _⟩
  | j + 1, r, h => by
    conv at h => lhs; unfold itemsTo
    cases hj : itemsTo M l j with
    | none => rw [hj] at h; cases h
    | some r' =>
      cases hp : l[j]? with
      | none => rw [hj, hp] at h; cases h
      | some p =>
        rw [hj, hp] at h
        dsimp only at h
        split at h
        · cases h
          have := to_len hj
          have := (List.getElem?_eq_some_iff.1 hp).1
          simp
          omega
        · cases h
def sptv (p : Spt) : List Value := [.int .i64 p.1, .int .i64 p.2]
def ordv (o : Ord) : List Value := [.int .i64 o.id, .int .i64 o.stream, .int .i64 o.expect, .int .i64 o.kind, .int .i64 o.arg]
def evv (e : Int × Int) : List Value := [.int .i64 e.1, .int .i64 e.2]
def iav (x : IA × Sl) : List Value := [.int .i64 x.1.1.1, .int .i64 x.1.1.2, .int .i64 x.1.2.1.id, .int .i64 x.1.2.1.stream, .int .i64 x.1.2.1.expect, .int .i64 x.1.2.1.kind, .int .i64 x.1.2.1.arg,
  .int .i64 x.1.2.2.1, .int .i64 x.1.2.2.2.1, .slice x.2.1 x.2.2.1 x.2.2.2]
def spotE : Gr.Enc Try.prog Spt where
  elem := 71
  slice := 52
  size := 2
  bytes := 16
  zero := .agg #[.int .i64 0, .int .i64 0]
  enc := sptv
  len := fun _ => rfl
  one := by simp [sptv, Value.oneCell']
  pos := by omega
  und := Try.underlying52
  info := by kernel_rfl
  zs := rfl
  few := by omega
def ordE : Gr.Enc Try.prog Ord where
  elem := 43
  slice := 53
  size := 5
  bytes := 40
  zero := .agg #[.int .i64 0, .int .i64 0, .int .i64 0, .int .i64 0, .int .i64 0]
  enc := ordv
  len := fun _ => rfl
  one := by simp [ordv, Value.oneCell']
  pos := by omega
  und := Try.underlying53
  info := by kernel_rfl
  zs := rfl
  few := by omega
def evE : Gr.Enc Try.prog (Int × Int) where
  elem := 35
  slice := 31
  size := 2
  bytes := 16
  zero := .agg #[.int .i64 0, .int .i64 0]
  enc := evv
  len := fun _ => rfl
  one := by simp [evv, Value.oneCell']
  pos := by omega
  und := Try.underlying31
  info := by kernel_rfl
  zs := rfl
  few := by omega
def itemE : Gr.Enc Try.prog (IA × Sl) where
  elem := 73
  slice := 56
  size := 10
  bytes := 96
  zero := .agg #[.int .i64 0, .int .i64 0, .int .i64 0, .int .i64 0, .int .i64 0, .int .i64 0, .int .i64 0, .int .i64 0, .int .i64 0, .slice none 0 0]
  enc := iav
  len := fun _ => rfl
  one := by simp [iav, Value.oneCell']
  pos := by omega
  und := Try.underlying56
  info := by kernel_rfl
  zs := rfl
  few := by omega

/-- The events of an item, wherever they lie, beside this block. -/
def EvC (w : World) (own : Option Nat) (sl : Sl) (evs : List (Int × Int)) : Prop :=
  (evs = [] ∧ sl = (none, 0, 0)) ∨ ∃ g c k a, sl = (some ⟨g, 0, none⟩, 1, c) ∧ evs = [(k, a)] ∧ 1 ≤ c ∧ c ≤ 9223372036854775807 ∧ g < w.heap.size ∧ some g ≠ own ∧
    w.cell? ⟨g, 0, none⟩ = some (.int .i64 k) ∧ w.cell? ⟨g, 1, none⟩ = some (.int .i64 a)
abbrev EvR (w : World) (own : Option Nat) (x : IA × Sl) : Prop := EvC w own x.2 x.1.2.2.2.2
section
variable {w w' : World} {B : Nat} {own own' : Option Nat} {sl : Sl} {evs : List (Int × Int)}
theorem EvAt.toC (h : EvAt w B own sl evs) : EvC w own sl evs := by
  rcases h with h | ⟨g, k, a, h1, h2, h3, h4, h5, h6, h7, _⟩
  · exact .inl h
  · exact .inr ⟨g, 1, k, a, h1, h2, Nat.le_refl _, by omega, h4, h5, h6, h7⟩
theorem EvC.any (h : EvC w own sl evs) : EvC w none sl evs := by
  rcases h with h | ⟨g, c, k, a, h1, h2, h3, h4, h5, h6, h7⟩
  · exact .inl h
  · exact .inr ⟨g, c, k, a, h1, h2, h3, h4, h5, by simp, h7⟩
theorem EvC.pure (h : EvC w own sl evs) (hb : Below w.heap.size w w') : EvC w' own sl evs := by
  rcases h with h | ⟨g, c, k, a, h1, h2, h3, h4, h5, h6, h7, h8⟩
  · exact .inl h
  · exact .inr ⟨g, c, k, a, h1, h2, h3, h4, Nat.lt_of_lt_of_le h5 hb.size, h6, (hb.cell (p := ⟨g, 0, none⟩) h5).trans h7, (hb.cell (p := ⟨g, 1, none⟩) h5).trans h8⟩
theorem EvC.move (h : EvC w own sl evs) (hg : w.grownBy w' own) (ho : own' = own ∨ ∃ g, own' = some g ∧ w.heap.size ≤ g) : EvC w' own' sl evs := by
  rcases h with h | ⟨g, c, k, a, h1, h2, h3, h4, h5, h6, h7, h8⟩
  · exact .inl h
  · have hb := hg.block g h5 h6
    refine .inr ⟨g, c, k, a, h1, h2, h3, h4, Nat.lt_of_lt_of_le h5 hg.size, ?_, (World.cell?_of_block (a := ⟨g, 0, none⟩) hb).trans h7, (World.cell?_of_block (a := ⟨g, 1, none⟩) hb).trans h8⟩
    rcases ho with rfl | ⟨q, rfl, hq⟩
    · exact h6
    · intro e; cases e; omega
theorem EvC.beside (h : EvC w own sl evs) (hs : w.heap.size ≤ w'.heap.size) (hb : ∀ g, sl.1 = some ⟨g, 0, none⟩ → w'.heap[g]? = w.heap[g]?) : EvC w' own sl evs := by
  rcases h with h | ⟨g, c, k, a, h1, h2, h3, h4, h5, h6, h7, h8⟩
  · exact .inl h
  · have hb := hb g (by rw [h1])
    exact .inr ⟨g, c, k, a, h1, h2, h3, h4, Nat.lt_of_lt_of_le h5 hs, h6, (World.cell?_of_block (a := ⟨g, 0, none⟩) hb).trans h7, (World.cell?_of_block (a := ⟨g, 1, none⟩) hb).trans h8⟩
theorem EvC.free (h : EvC w none sl evs) (hf : ∀ g, own = some g → w.heap.size ≤ g) : EvC w own sl evs := by
  rcases h with h | ⟨g, c, k, a, h1, h2, h3, h4, h5, h6, h7⟩
  · exact .inl h
  · exact .inr ⟨g, c, k, a, h1, h2, h3, h4, h5, fun e => by have := hf g e.symm; omega, h7⟩
theorem EvC.len (h : EvC w own sl evs) : sl.2.1 = evs.length := by
  rcases h with ⟨rfl, rfl⟩ | ⟨g, c, k, a, rfl, rfl, _⟩
  · rfl
  · rfl
end
/-- v is a row of these items, the row itself in memory from B on. -/
def Its (w : World) (B : Nat) (v : Value) (l : List IA) : Prop := ∃ ps : List (IA × Sl), ps.map (·.1) = l ∧ Gr.Row itemE w B v ps ∧ ∀ p ∈ ps, EvR w v.ownBlock p
/-- The slice at A reads as these items. -/
def ItsR (w : World) (A : Option Addr) (l : List IA) : Prop := ∃ ps : List (IA × Sl), ps.map (·.1) = l ∧ Gr.Sl itemE w w.heap.size A ps ∧ ∀ p ∈ ps, EvR w none p
section
variable {w w' : World} {B B' : Nat} {v : Value} {l : List IA} {A : Option Addr}
theorem Its.nil (w : World) (B : Nat) : Its w B (.slice none 0 0) [] := ⟨[], rfl, Gr.Row.nil _ _, by simp⟩
theorem Its.keep (h : Its w B v l) (hb : Below w.heap.size w w') : Its w' B v l := by
  obtain ⟨ps, h1, h2, h3⟩ := h
  exact ⟨ps, h1, Gr.Row.keep h2 hb, fun p hp => (h3 p hp).pure hb⟩
theorem Its.base (h : Its w B v l) (hB : B' ≤ B) : Its w B' v l := by
  obtain ⟨ps, h1, h2, h3⟩ := h
  exact ⟨ps, h1, Gr.Row.base h2 hB, h3⟩
theorem Its.lt (h : Its w B v l) : ∀ g, v.ownBlock = some g → B ≤ g ∧ g < w.heap.size := by
  obtain ⟨ps, _, h2, _⟩ := h
  exact fun g hg => h2.lt g hg
theorem Its.below {w0 : World} (hw : Below B w0 w) (hg : w.grownBy w' v.ownBlock) (h : Its w B v l) (hB : B ≤ w.heap.size) : Below B w0 w' := by
  obtain ⟨ps, _, h2, _⟩ := h
  exact below_own hw hg h2 hB
/-- One more item. -/
theorem Its.snoc (h : Its w B v l) (x : IA) (sl : Sl) (he : EvC w v.ownBlock sl x.2.2.2.2) (hn : l.length < 100000) (hB : B ≤ w.heap.size) {H : Nat} (hH : w.heap.size = H) (ty : TypeId) :
    ∃ v' w', (Builtin.append_ #[56, 56] ty #[v, .slice (some ⟨H, 0, none⟩) 1 1]).run Try.prog (w.alloc (.cells (iav (x, sl)).toArray 73)) = .ok v' w' ∧ Its w' B v' (l ++ [x]) ∧ w.grownBy w' v.ownBlock := by
  obtain ⟨ps, h1, h2, h3⟩ := h
  have hl : ps.length = l.length := by rw [← h1, List.length_map]
  obtain ⟨v', w', hr, ho, hg, hb⟩ := Gr.Row.snoc h2 (x, sl) (by omega) hB hH ty
  have hown : v'.ownBlock = v.ownBlock ∨ ∃ g, v'.ownBlock = some g ∧ w.heap.size ≤ g := by
    rcases hb with h | h
    · exact .inl h
    · exact .inr ⟨_, h, by omega⟩
  refine ⟨v', w', hr, ⟨ps ++ [(x, sl)], by simp [h1], ho, fun p hp => ?_⟩, hg⟩
  rcases List.mem_append.1 hp with hp | hp
  · exact (h3 p hp).move hg hown
  · obtain rfl : p = (x, sl) := by simpa using hp
    exact he.move hg hown
theorem Its.form (h : Its w B v l) : ∃ A c, v = .slice A l.length c ∧ l.length ≤ c ∧ c ≤ 9223372036854775807 ∧ ItsR w A l := by
  obtain ⟨ps, h1, h2, h3⟩ := h
  obtain ⟨A, c, rfl, k1, k2, hs⟩ := Gr.Row.form h2
  have hl : ps.length = l.length := by rw [← h1, List.length_map]
  rw [hl] at k1 ⊢
  exact ⟨A, c, rfl, k1, k2, ps, h1, hs, fun p hp => (h3 p hp).any⟩
theorem ItsR.nil : ItsR w A [] := ⟨[], rfl, Gr.Sl.nil, by simp⟩
theorem ItsR.keep (h : ItsR w A l) (hb : Below w.heap.size w w') : ItsR w' A l := by
  obtain ⟨ps, h1, h2, h3⟩ := h
  exact ⟨ps, h1, Gr.Sl.keep h2 hb, fun p hp => (h3 p hp).pure hb⟩
theorem ItsR.take (h : ItsR w A l) (n : Nat) : ItsR w A (l.take n) := by
  obtain ⟨ps, h1, h2, h3⟩ := h
  exact ⟨ps.take n, by rw [List.map_take, h1], h2.take n, fun p hp => h3 p (List.mem_of_mem_take hp)⟩
theorem ItsR.drop {b off : Nat} (h : ItsR w (some ⟨b, off, none⟩) l) (n : Nat) : ItsR w (some ⟨b, off + n * 10, none⟩) (l.drop n) := by
  obtain ⟨ps, h1, h2, h3⟩ := h
  exact ⟨ps.drop n, by rw [List.map_drop, h1], h2.drop n, fun p hp => h3 p (List.mem_of_mem_drop hp)⟩
theorem ItsR.at_ (h : ItsR w A l) {k : Nat} (hk : k < l.length) : ∃ b off x sl, A = some ⟨b, off, none⟩ ∧ Hid (l[k]? = some x) ∧ b < w.heap.size ∧ EvC w none sl x.2.2.2.2 ∧
    ∀ w', Below w.heap.size w w' → Gr.At itemE w' b (off + k * 10) (x, sl) := by
  obtain ⟨ps, h1, h2, h3⟩ := h
  subst h1
  rw [List.length_map] at hk
  obtain ⟨b, off, e, ha, he, hb, hc⟩ := h2.at_ hk
  refine ⟨b, off, e.1, e.2, ha, Lib.hid (by rw [List.getElem?_map, he.out]; rfl), hb, h3 e (List.mem_of_getElem? he.out), hc⟩
end
end Go.Proofs.Ytifeokabecgimaa
