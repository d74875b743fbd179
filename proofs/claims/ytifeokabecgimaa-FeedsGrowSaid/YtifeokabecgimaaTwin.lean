/-
  The walks over Twin and Left.
-/
import Derived.Test.YtifeokabecgimaaSame
set_option linter.unusedSimpArgs false
set_option linter.unusedVariables false
set_option maxRecDepth 100000
namespace Go.Proofs.Ytifeokabecgimaa
open Go.RowKit Go.Sq Go.Wd

theorem ent_info : (Try.prog.info? 45).map (fun i => (i.zero, i.size, i.bytes)) = some (some (.agg #[.int .i64 0, .int .i64 0, .int .i64 0, .int .i64 0, .int .i64 0, .int .i64 0]), 6, 48) := by kernel_rfl

def flat (l : List Ent) : List Value := l.flatMap vals
theorem flat_len (l : List Ent) : (flat l).length = l.length * 6 := by
  induction l with
  | nil => rfl
  | cons a l ih =>
    have e : flat (a :: l) = vals a ++ flat l := rfl
    rw [e, List.length_append, ih]
    simp [vals]
    omega
theorem flat_snoc (l m : List Ent) : flat (l ++ m) = flat l ++ flat m := by simp [flat]
theorem flat_one (e : Ent) : flat [e] = vals e := by simp [flat]
theorem flat_get : ∀ (l : List Ent) (i : Nat) (e : Ent) (k : Nat), l[i]? = some e → k < 6 → (flat l)[i * 6 + k]? = (vals e)[k]?
  | [], i, e, k, h, _ => by simp at h
  | a :: l, 0, e, k, h, hk => by
    simp at h
    subst h
    have e2 : flat (a :: l) = vals a ++ flat l := rfl
    rw [e2, Nat.zero_mul, Nat.zero_add, List.getElem?_append_left (by simpa [vals] using hk)]
  | a :: l, i + 1, e, k, h, hk => by
    have ih := flat_get l i e k (by simpa using h) hk
    have e2 : flat (a :: l) = vals a ++ flat l := rfl
    rw [e2, List.getElem?_append_right (by simp [vals]; omega), ← ih]
    congr 1
    simp [vals]
    omega
theorem flat_one_cell (l : List Ent) : ∀ u ∈ flat l, u.oneCell' = true := by
  intro u hu
  simp only [flat, List.mem_flatMap] at hu
  obtain ⟨e, _, hu⟩ := hu
  simp only [vals, List.mem_cons, List.not_mem_nil, or_false] at hu
  rcases hu with rfl | rfl | rfl | rfl | rfl | rfl <;> rfl

theorem add_off (b o j : Nat) : (⟨b, o, none⟩ : Addr).add j = ⟨b, o + j, none⟩ := by
  unfold Addr.add
  by_cases h : j = 0 <;> simp [h]

/-- Where the cells of such a slice lie. -/
theorem Ents.cells {w : World} {B : Nat} {A : Option Addr} {l : List Ent} (h : Ents w B A l) (h0 : 0 < l.length) : ∃ ad, A = some ad ∧ ∀ j u, (flat l)[j]? = some u → w.cell? (ad.add j) = some u := by
  obtain ⟨b, off, ha, hb, hc⟩ := h h0
  refine ⟨_, ha, fun j u hu => ?_⟩
  have hj : j < l.length * 6 := by
    have := (List.getElem?_eq_some_iff.1 hu).1
    rw [flat_len] at this
    exact this
  obtain ⟨i, k, hk, rfl⟩ : ∃ i k, k < 6 ∧ j = i * 6 + k := ⟨j / 6, j % 6, Nat.mod_lt _ (by omega), by omega⟩
  obtain ⟨e, he⟩ : ∃ e, l[i]? = some e := ⟨_, List.getElem?_eq_getElem (by omega)⟩
  rw [flat_get l i e k he hk] at hu
  rw [add_off]
  obtain ⟨c0, c1, c2, c3, c4, c5⟩ := hc i e he
  obtain rfl | rfl | rfl | rfl | rfl | rfl : k = 0 ∨ k = 1 ∨ k = 2 ∨ k = 3 ∨ k = 4 ∨ k = 5 := by omega
  all_goals
    simp [vals] at hu
    subst hu
    first
    | exact c0
    | exact c1
    | exact c2
    | exact c3
    | exact c4
    | exact c5

theorem ents_of {w : World} {B g c : Nat} {L : List Ent} {n : Nat} (hn : n = L.length) (h : w.ownsRow B 45 6 (.slice (some ⟨g, 0, none⟩) n c) n (flat L)) : Ents w w.heap.size (some ⟨g, 0, none⟩) L := by
  subst hn
  intro hl
  have hg : g < w.heap.size := (h.lt g rfl).2
  refine ⟨g, 0, rfl, hg, fun i e hi => ?_⟩
  have hlt := (List.getElem?_eq_some_iff.1 hi).1
  have key : ∀ k, k < 6 → w.cell? ⟨g, i * 6 + k, none⟩ = (vals e)[k]? := fun k hk => by
    rw [h.cellAt (i * 6 + k) (by omega)]
    exact flat_get L i e k hi hk
  rw [Nat.zero_add]
  exact ⟨key 0 (by omega), key 1 (by omega), key 2 (by omega), key 3 (by omega), key 4 (by omega), key 5 (by omega)⟩

/-- A twin of l: in memory of its own, with one entry more behind it. -/
def TwinAt (w : World) (B g cap : Nat) (l : List Ent) : Prop :=
  w.ownsRow B 45 6 (.slice (some ⟨g, 0, none⟩) (l.length + 1) cap) (l.length + 1) (flat (l ++ [(-70, 0, 0, 0, 0, 0)]))

theorem TwinAt.ents {w : World} {B g cap : Nat} {l : List Ent} (h : TwinAt w B g cap l) : Ents w w.heap.size (some ⟨g, 0, none⟩) l := by
  have := (ents_of (by simp) h).take l.length
  simpa using this
theorem TwinAt.keep {w w' : World} {B g cap : Nat} {l : List Ent} (h : TwinAt w B g cap l) (hb : Below w.heap.size w w') : TwinAt w' B g cap l := h.kept (only_of_below hb none) (Classical.em _)
theorem TwinAt.cap {w : World} {B g cap : Nat} {l : List Ent} (h : TwinAt w B g cap l) : l.length + 1 ≤ cap ∧ cap ≤ maxLen := by
  rcases h.2 with ⟨h, _⟩ | ⟨g', cap', cur, h, _, _, h1, h2, _⟩
  · cases h
  · cases h; exact ⟨h1, h2⟩
theorem TwinAt.lt {w : World} {B g cap : Nat} {l : List Ent} (h : TwinAt w B g cap l) : g < w.heap.size := (World.ownsRow.lt h g rfl).2
theorem TwinAt.last {w : World} {B g cap : Nat} {l : List Ent} (h : TwinAt w B g cap l) : w.cell? ⟨g, l.length * 6, none⟩ = some (.int .i64 (-70)) := by
  rw [World.ownsRow.cellAt h _ (by omega)]
  have := flat_get (l ++ [(-70, 0, 0, 0, 0, 0)]) l.length (-70, 0, 0, 0, 0, 0) 0 (by simp) (by omega)
  simpa [vals] using this

set_option maxHeartbeats 1000000 in
theorem twin_any (l : List Ent) (A : Option Addr) (c : Nat) (w : World) (ha : Ents w w.heap.size A l) (hl : l.length ≤ 2000) :
    Calls Try.prog 14 #[.slice A l.length c] w fun e w' => ∃ g cap, e = .returned (.slice (some ⟨g, 0, none⟩) l.length cap) ∧ TwinAt w' w.heap.size g cap l ∧ Below w.heap.size w w' := by
  have hw := Below.refl w.heap.size w
  obtain ⟨i, hi, hz, h2, h3⟩ := info_parts ent_info
  have hmk := run_make (P := Try.prog) w 22 45 i _ Try.underlying22 hi hz .i64 .i64 0 ((l.length : Int) + 1) (by omega) (by omega) (by rw [h3]; omega) (by omega)
  rw [h2] at hmk
  have htn : ((l.length : Int) + 1).toNat = l.length + 1 := by omega
  rw [htn] at hmk
  have ho0 := World.ownsRow_made (base := w.heap.size) (e := 45) (size := 6) w (madeCells (Value.agg #[.int .i64 0, .int .i64 0, .int .i64 0, .int .i64 0, .int .i64 0, .int .i64 0]).cells ((l.length + 1) * 6)) (l.length + 1) (Nat.le_refl _) (by simp only [maxLen]; omega) (by rw [size_madeCells])
  generalize madeCells (Value.agg #[.int .i64 0, .int .i64 0, .int .i64 0, .int .i64 0, .int .i64 0, .int .i64 0]).cells ((l.length + 1) * 6) = mc at hmk ho0
  have hW0 : Below w.heap.size w (w.alloc (.cells mc 45)) := hw.alloc (Nat.le_refl _) _
  have ha0 := (ha.below hW0).cells
  obtain ⟨v1, w1, hr1, ho1, hg1, _⟩ := append_all (P := Try.prog) 22 Try.underlying22 ent_info rfl (by omega) ho0 A l.length c (flat l) (flat_len l) ha0 (flat_one_cell l) (by simp only [maxLen]; omega) (by omega) hW0.size
  have hW1 := below_own hW0 hg1 ho0 hW0.size
  obtain ⟨v2, w2, hr2, ho2, hg2, _⟩ := append_one (P := Try.prog) (W := w1) 22 Try.underlying22 ent_info rfl (by omega) ho1 (vals (-70, 0, 0, 0, 0, 0)) rfl (by intro u hu; exact flat_one_cell [(-70, 0, 0, 0, 0, 0)] u (by rw [flat_one]; exact hu)) (by simp only [maxLen]; omega) (by omega) hW1.size rfl
  have hW2 := below_own hW1 hg2 ho1 hW1.size
  simp only [Int.toNat_zero, Nat.zero_add] at hmk
  have HT : Hid (w2.ownsRow w.heap.size 45 6 v2 (l.length + 1) (flat (l ++ [(-70, 0, 0, 0, 0, 0)]))) := Lib.hid (by rw [flat_snoc, flat_one]; simpa using ho2)
  obtain ⟨g, cap, rfl, hgB, hglt⟩ := ho2.form (by omega)
  rw [show 0 + l.length + 1 = l.length + 1 from by omega] at hr2
  have hcap : l.length ≤ cap := by
    have := (show TwinAt w2 w.heap.size g cap l from by have h := HT.out; rw [show 0 + l.length + 1 = l.length + 1 from by omega] at h; exact h).cap
    omega
  clear hg1 hg2 ho0 ho1 ho2 ha0 hW0 htn h2 h3 hi hz hw
  simp only [vals] at hr2
  go_enter Try.func14, Try.ntmps14
  go_wp2_with (first | (at_builtin; refine wpList_app rfl (by rfl) (by rfl) (by rfl) hr1 ?_) | (at_builtin; refine wpList_app rfl (by rfl) (by rfl) (by rfl) hr2 ?_))
  go_ret
  refine ⟨g, cap, rfl, ?_, hW2⟩
  have h := HT.out
  rw [show 0 + l.length + 1 = l.length + 1 from by omega] at h
  exact h

set_option maxHeartbeats 1000000 in
theorem left_any (l : List Ent) (A : Option Addr) (B g cap c : Nat) (w : World) (ht : TwinAt w B g cap l) (ha : Ents w w.heap.size A l) (hl : l.length ≤ 2000) :
    Calls Try.prog 18 #[.slice (some ⟨g, 0, none⟩) l.length cap, .slice A l.length c] w fun e w' => e = .returned (.bool true) ∧ Below w.heap.size w w' := by
  have hc := ht.cap
  have c1 : l.length < cap := by omega
  have c2 : cap ≤ 9223372036854775807 := by have := hc.2; simp only [maxLen] at this; omega
  clear hc
  go_enter Try.func18, Try.ntmps18
  go_wp2_with fail
  refine (same_any l l _ _ _ _ _ ht.ents ha (by omega) (by omega)).mono ?_
  rintro e w1 ⟨rfl, hb⟩
  have hlast := (ht.keep hb).last
  have hd : decide (l = l) = true := by simp
  rw [hd]
  go_wp2_with fail
  go_ret
  exact ⟨rfl, hb⟩
end Go.Proofs.Ytifeokabecgimaa
