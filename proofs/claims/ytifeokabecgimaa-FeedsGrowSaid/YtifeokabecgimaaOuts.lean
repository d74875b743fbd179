/-
  A slice of outcomes, in memory of the call's own.
-/
import Derived.Test.YtifeokabecgimaaFoldSpec
import Derived.Test.YtifeokabecgimaaTwin
set_option linter.unusedSimpArgs false
set_option linter.unusedVariables false
set_option maxRecDepth 100000
namespace Go.Proofs.Ytifeokabecgimaa
open Go Go.RowKit Go.Sq Go.Wd Go.Arch

theorem out_info : (Try.prog.info? 33).map (fun i => (i.zero, i.size, i.bytes)) = some (some (.agg #[.int .i64 0, .int .i64 0, .slice none 0 0]), 3, 40) := by kernel_rfl

abbrev Sl := Option Addr × Nat × Nat
/-- The events of an outcome, at slice sl, in memory from B on, beside the block own. -/
def EvAt (w : World) (B : Nat) (own : Option Nat) (sl : Sl) (evs : List (Int × Int)) : Prop :=
  (evs = [] ∧ sl = (none, 0, 0)) ∨ ∃ g k a, sl = (some ⟨g, 0, none⟩, 1, 1) ∧ evs = [(k, a)] ∧ B ≤ g ∧ g < w.heap.size ∧ some g ≠ own ∧
    w.cell? ⟨g, 0, none⟩ = some (.int .i64 k) ∧ w.cell? ⟨g, 1, none⟩ = some (.int .i64 a) ∧ w.frozen? ⟨g, 0, none⟩ = false ∧ w.frozen? ⟨g, 1, none⟩ = false

def oval (p : OutS × Sl) : List Value := [.int .i64 p.1.1, .int .i64 p.1.2.1, .slice p.2.1 p.2.2.1 p.2.2.2]
def oflat (ps : List (OutS × Sl)) : List Value := ps.flatMap oval
/-- v is a slice of these outcomes, all of it in memory from B on. -/
def Outs (w : World) (B : Nat) (v : Value) (outs : List OutS) : Prop :=
  ∃ ps : List (OutS × Sl), ps.map (·.1) = outs ∧ w.ownsRow B 33 3 v ps.length (oflat ps) ∧ ∀ p ∈ ps, EvAt w B v.ownBlock p.2 p.1.2.2

theorem oflat_snoc (ps : List (OutS × Sl)) (p : OutS × Sl) : oflat (ps ++ [p]) = oflat ps ++ oval p := by simp [oflat]
theorem oflat_get : ∀ (ps : List (OutS × Sl)) (i : Nat) (p : OutS × Sl) (k : Nat), ps[i]? = some p → k < 3 → (oflat ps)[i * 3 + k]? = (oval p)[k]?
  | [], i, p, k, h, _ => by simp at h
  | a :: l, 0, p, k, h, hk => by
    simp at h
    subst h
    have e2 : oflat (a :: l) = oval a ++ oflat l := rfl
    rw [e2, Nat.zero_mul, Nat.zero_add, List.getElem?_append_left (by simpa [oval] using hk)]
  | a :: l, i + 1, p, k, h, hk => by
    have ih := oflat_get l i p k (by simpa using h) hk
    have e2 : oflat (a :: l) = oval a ++ oflat l := rfl
    rw [e2, List.getElem?_append_right (by simp [oval]; omega), ← ih]
    congr 1
    simp [oval]
    omega

theorem EvAt.keep {w w' : World} {B : Nat} {own row : Option Nat} {sl : Sl} {evs : List (Int × Int)} (h : EvAt w B own sl evs) (hg : w.grownBy w' row) (hr : ∀ g, row = some g → g < B ∨ row = own) : EvAt w' B own sl evs := by
  rcases h with h | ⟨g, k, a, h1, h2, h3, h4, h5, h6, h7, h8, h9⟩
  · exact .inl h
  · have hne : some g ≠ row := by
      intro e
      rcases hr g e.symm with h | h
      · omega
      · exact h5 (e.trans h)
    have hb := hg.block g h4 hne
    refine .inr ⟨g, k, a, h1, h2, h3, Nat.lt_of_lt_of_le h4 hg.size, h5, (World.cell?_of_block (a := ⟨g, 0, none⟩) hb).trans h6, (World.cell?_of_block (a := ⟨g, 1, none⟩) hb).trans h7,
      (World.frozen?_of_block (a := ⟨g, 0, none⟩) hb).trans h8, (World.frozen?_of_block (a := ⟨g, 1, none⟩) hb).trans h9⟩
theorem EvAt.own' {w : World} {B : Nat} {own own' : Option Nat} {sl : Sl} {evs : List (Int × Int)} (h : EvAt w B own sl evs) (ho : own' = own ∨ ∃ g, own' = some g ∧ w.heap.size ≤ g) : EvAt w B own' sl evs := by
  rcases h with h | ⟨g, k, a, h1, h2, h3, h4, h5, h6⟩
  · exact .inl h
  · refine .inr ⟨g, k, a, h1, h2, h3, h4, ?_, h6⟩
    rcases ho with rfl | ⟨g', rfl, hg⟩
    · exact h5
    · intro e; cases e; omega

theorem EvAt.move {w w' : World} {B : Nat} {own own' : Option Nat} {sl : Sl} {evs : List (Int × Int)} (h : EvAt w B own sl evs) (hg : w.grownBy w' own) (ho : own' = own ∨ ∃ g, own' = some g ∧ w.heap.size ≤ g) : EvAt w' B own' sl evs := by
  have h2 := h.keep hg (fun g e => .inr rfl)
  rcases h with h | ⟨g, k, a, h1, h2', h3, h4, h5, _⟩
  · exact .inl h
  · rcases h2 with h2 | ⟨g', k', a', q1, q2, q3, q4, q5, q6⟩
    · rw [h2.1] at h2'; cases h2'
    · rw [h1] at q1
      cases q1
      refine .inr ⟨g, k', a', h1, q2, q3, q4, ?_, q6⟩
      rcases ho with rfl | ⟨g', rfl, hg'⟩
      · exact h5
      · intro e; cases e; omega

theorem Outs.nil (w : World) (B : Nat) : Outs w B (.slice none 0 0) [] := ⟨[], rfl, World.ownsRow_nil _ _ _ _, by simp⟩
theorem Outs.keep {w w' : World} {B : Nat} {v : Value} {outs : List OutS} {row : Option Nat} (h : Outs w B v outs) (hg : w.grownBy w' row) (hr : ∀ g, row = some g → g < B) : Outs w' B v outs := by
  obtain ⟨ps, h1, h2, h3⟩ := h
  refine ⟨ps, h1, h2.kept hg ?_, fun p hp => (h3 p hp).keep hg fun g e => .inl (hr g e)⟩
  cases hv : v.ownBlock with
  | none => exact .inl rfl
  | some g =>
    refine .inr fun e => ?_
    have := hr g e.symm
    have := (h2.lt g hv).1
    omega
theorem Outs.pure {w w' : World} {B : Nat} {v : Value} {outs : List OutS} (h : Outs w B v outs) (hb : Below w.heap.size w w') : Outs w' B v outs := h.keep (only_of_below hb none) (fun g e => by cases e)

theorem Outs.own_lt {w : World} {B : Nat} {v : Value} {outs : List OutS} (h : Outs w B v outs) : ∀ g, v.ownBlock = some g → g < w.heap.size := by
  obtain ⟨ps, _, h2, _⟩ := h
  exact fun g hv => (h2.lt g hv).2
/-- One of them. -/
theorem Outs.read {w : World} {B : Nat} {v : Value} {outs : List OutS} (h : Outs w B v outs) {k : Nat} (hk : k < outs.length) :
    ∃ g cap o sl, v = .slice (some ⟨g, 0, none⟩) outs.length cap ∧ outs[k]? = some o ∧ B ≤ g ∧ g < w.heap.size ∧ outs.length ≤ cap ∧ cap ≤ maxLen ∧ EvAt w B (some g) sl o.2.2 ∧
      w.cell? ⟨g, k * 3, none⟩ = some (.int .i64 o.1) ∧ w.cell? ⟨g, k * 3 + 1, none⟩ = some (.int .i64 o.2.1) ∧ w.cell? ⟨g, k * 3 + 2, none⟩ = some (.slice sl.1 sl.2.1 sl.2.2) := by
  obtain ⟨ps, rfl, h2, h3⟩ := h
  rw [List.length_map] at hk ⊢
  obtain ⟨g, cap, rfl, hgB, hg⟩ := h2.form (by omega)
  obtain ⟨p, hp⟩ : ∃ p, ps[k]? = some p := ⟨_, List.getElem?_eq_getElem hk⟩
  have hc : ps.length ≤ cap ∧ cap ≤ maxLen := by
    rcases h2.2 with ⟨h, _⟩ | ⟨g', cap', cur, h, _, _, q1, q2, _⟩
    · cases h
    · cases h; exact ⟨q1, q2⟩
  refine ⟨g, cap, p.1, p.2, rfl, by rw [List.getElem?_map, hp]; rfl, hgB, hg, hc.1, hc.2, h3 p (List.mem_of_getElem? hp), ?_, ?_, ?_⟩
  · have := oflat_get ps k p 0 hp (by omega)
    rw [Nat.add_zero] at this
    rw [h2.cellAt (k * 3) (by omega), this]; rfl
  · rw [h2.cellAt (k * 3 + 1) (by omega), oflat_get ps k p 1 hp (by omega)]; rfl
  · rw [h2.cellAt (k * 3 + 2) (by omega), oflat_get ps k p 2 hp (by omega)]; rfl

/-- One more. -/
theorem Outs.snoc {W : World} {B : Nat} {v : Value} {outs : List OutS} (h : Outs W B v outs) (o : OutS) (sl : Sl) (he : EvAt W B v.ownBlock sl o.2.2) (hn : outs.length < 1000000) (hB : B ≤ W.heap.size) {H : Nat} (hH : W.heap.size = H) (ty : TypeId) :
    ∃ v' w', (Builtin.append_ #[26, 26] ty #[v, .slice (some ⟨H, 0, none⟩) 1 1]).run Try.prog (W.alloc (.cells #[.int .i64 o.1, .int .i64 o.2.1, .slice sl.1 sl.2.1 sl.2.2] 33)) = .ok v' w' ∧
      Outs w' B v' (outs ++ [o]) ∧ W.grownBy w' v.ownBlock ∧
      ∀ g c j u, v = .slice (some ⟨g, 0, none⟩) outs.length c → j < outs.length * 3 → W.cell? ⟨g, j, none⟩ = some u → w'.cell? ⟨g, j, none⟩ = some u := by
  obtain ⟨ps, h1, h2, h3⟩ := h
  have hl : ps.length = outs.length := by rw [← h1, List.length_map]
  obtain ⟨v', w', hr, ho, hg, hb⟩ := append_one (P := Try.prog) ty Try.underlying26 out_info rfl (by omega) h2 (oval (o, sl)) rfl (by intro u hu; simp only [oval, List.mem_cons, List.not_mem_nil, or_false] at hu; rcases hu with rfl | rfl | rfl <;> rfl) (by simp only [maxLen]; omega) (by omega) hB hH
  refine ⟨v', w', hr, ⟨ps ++ [(o, sl)], by simp [h1], by rw [List.length_append, oflat_snoc]; exact ho, ?_⟩, hg, ?_⟩
  · have hown : v'.ownBlock = v.ownBlock ∨ ∃ g, v'.ownBlock = some g ∧ W.heap.size ≤ g := by
      rcases hb with h | h
      · exact .inl h
      · exact .inr ⟨_, h, by omega⟩
    intro p hp
    rcases List.mem_append.1 hp with hp | hp
    · exact (h3 p hp).move hg hown
    · obtain rfl : p = (o, sl) := by simpa using hp
      exact he.move hg hown
  · intro g c j u hv hj hu
    subst hv
    subst hH
    obtain ⟨i, hi, hz, hsz, hbt⟩ := info_parts out_info
    rw [← hl] at hr h2
    have hx : (oflat ps)[j]? = some u := by
      have := h2.cellAt j (by omega)
      rw [← this]; exact hu
    refine append_keeps (P := Try.prog) (i := i) (base := B) (n := ps.length) (cap := c) (m := 1) (news := oval (o, sl)) (xs := oflat ps) Try.underlying26 hi hz ?_ ?_ ?_ ?_ (by omega) (by omega) (by rw [hbt]; omega) hr ?_ j u hx
    · rw [hsz]; exact h2.alloc _
    · rw [hsz]; rfl
    · intro j u hu
      have hc : (W.alloc (.cells (oval (o, sl)).toArray 33)).cell? ⟨W.heap.size, j, none⟩ = some u := by
        rw [cell_of_row _ _ _ (oval (o, sl)).toArray 33 (0, 0) (heap_alloc_new W _)]
        simpa using hu
      have hadd : (⟨W.heap.size, 0, none⟩ : Addr).add j = ⟨W.heap.size, j, none⟩ := by unfold Addr.add; split <;> simp_all
      rw [hadd]; exact hc
    · intro u hu; simp only [oval, List.mem_cons, List.not_mem_nil, or_false] at hu; rcases hu with rfl | rfl | rfl <;> rfl
    · rw [hsz]; exact ho
end Go.Proofs.Ytifeokabecgimaa
