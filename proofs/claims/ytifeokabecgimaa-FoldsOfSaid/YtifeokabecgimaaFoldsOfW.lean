/-
  The walk over the statement 'FoldsOf'.
-/
import Derived.Test.YtifeokabecgimaaWorks13
import Derived.Test.YtifeokabecgimaaFoldRef
import Derived.Test.YtifeokabecgimaaOpen2
import Derived.Test.YtifeokabecgimaaFoldSame
set_option linter.unusedSimpArgs false
set_option linter.unusedVariables false
set_option maxRecDepth 100000
namespace Go.Proofs.Ytifeokabecgimaa
open Go Go.RowKit Go.Sq Go.Wd Go.Arch

/-- Outcomes that may be written over: where their events' slices stand, and that there is room to write. -/
def Spoil (w : World) (B E : Nat) (A : Option Addr) (n : Nat) : Prop :=
  ∀ k, k < n → ∃ (g : Nat) (sl : Sl), A = some ⟨g, 0, none⟩ ∧ B ≤ g ∧ g < E ∧ (∃ u, w.cell? ⟨g, k * 3, none⟩ = some u) ∧ w.frozen? ⟨g, k * 3, none⟩ = false ∧
    w.cell? ⟨g, k * 3 + 2, none⟩ = some (.slice sl.1 sl.2.1 sl.2.2) ∧
    (sl = (none, 0, 0) ∨ ∃ ge : Nat, sl = (some ⟨ge, 0, none⟩, 1, 1) ∧ B ≤ ge ∧ ge < E ∧ ge ≠ g ∧ (∃ u, w.cell? ⟨ge, 0, none⟩ = some u) ∧ (∃ u, w.cell? ⟨ge, 1, none⟩ = some u) ∧ w.frozen? ⟨ge, 0, none⟩ = false ∧ w.frozen? ⟨ge, 1, none⟩ = false)

theorem Spoil.set {w : World} {B E g n : Nat} (h : Spoil w B E (some ⟨g, 0, none⟩) n) {p : Addr} (hp : p.block ≠ g ∨ ∃ j, p = ⟨g, j * 3, none⟩) (u : Value) : Spoil (w.setCell p u) B E (some ⟨g, 0, none⟩) n := by
  intro k hk
  obtain ⟨g', sl, h1, h2, h3, ⟨x, h4⟩, h5, h6, h7⟩ := h k hk
  cases h1
  refine ⟨g, sl, rfl, h2, h3, cell?_setCell_some h4, by rw [World.frozen?_setCell]; exact h5, ?_, ?_⟩
  · rw [World.cell?_setCell_other]
    · exact h6
    · rcases hp with hp | ⟨j, rfl⟩
      · intro e; rw [e] at hp; exact hp rfl
      · intro e; have := congrArg Addr.off e; simp at this; omega
  · rcases h7 with h7 | ⟨ge, e1, e2, e3, e4, ⟨x0, e5⟩, ⟨x1, e6⟩, e7, e8⟩
    · exact .inl h7
    · exact .inr ⟨ge, e1, e2, e3, e4, cell?_setCell_some e5, cell?_setCell_some e6, by rw [World.frozen?_setCell]; exact e7, by rw [World.frozen?_setCell]; exact e8⟩
theorem Spoil.pure {w w' : World} {B E n : Nat} {A : Option Addr} (h : Spoil w B E A n) (hb : Below w.heap.size w w') (hE : E ≤ w.heap.size) : Spoil w' B E A n := by
  intro k hk
  obtain ⟨g, sl, rfl, h2, h3, ⟨x, h4⟩, h5, h6, h7⟩ := h k hk
  have hg := hb.block g (by omega)
  refine ⟨g, sl, rfl, h2, h3, ⟨x, (hb.cell (p := ⟨g, _, none⟩) (by simp; omega)).trans h4⟩, (World.frozen?_of_block (a := ⟨g, _, none⟩) hg).trans h5, (hb.cell (p := ⟨g, _, none⟩) (by simp; omega)).trans h6, ?_⟩
  rcases h7 with h7 | ⟨ge, e1, e2, e3, e4, ⟨x0, e5⟩, ⟨x1, e6⟩, e7, e8⟩
  · exact .inl h7
  · have hge := hb.block ge (by omega)
    exact .inr ⟨ge, e1, e2, e3, e4, ⟨x0, (hb.cell (p := ⟨ge, _, none⟩) (by simp; omega)).trans e5⟩, ⟨x1, (hb.cell (p := ⟨ge, _, none⟩) (by simp; omega)).trans e6⟩, (World.frozen?_of_block (a := ⟨ge, _, none⟩) hge).trans e7, (World.frozen?_of_block (a := ⟨ge, _, none⟩) hge).trans e8⟩
theorem Outs.spoil {w : World} {B : Nat} {A : Option Addr} {n c : Nat} {outs : List OutS} (h : Outs w B (.slice A n c) outs) : Spoil w B w.heap.size A n := by
  intro k hk
  have hn : n = outs.length := by
    obtain ⟨ps, rfl, h2, _⟩ := h
    rw [List.length_map]
    rcases h2.2 with ⟨h, h0⟩ | ⟨_, _, _, h, _⟩
    · cases h; omega
    · cases h; rfl
  have hfz := h
  obtain ⟨g, cap, o, sl, hv, ho, h1, h2, _, _, h3, h4, h5, h6⟩ := h.read (k := k) (by omega)
  cases hv
  refine ⟨g, sl, rfl, h1, h2, ⟨_, h4⟩, ?_, h6, ?_⟩
  · obtain ⟨ps, _, q2, _⟩ := hfz
    have hps : outs.length = ps.length := by
      rcases q2.2 with ⟨h, h0⟩ | ⟨_, _, _, h, _⟩
      · cases h
      · injection h
    rw [hps] at q2
    exact World.ownsRow.frozenAt q2 (k * 3)
  · rcases h3 with h3 | ⟨ge, x, y, e1, e2, e3, e4, e5, e6, e7, e8, e9⟩
    · exact .inl h3.2
    · exact .inr ⟨ge, e1, e3, e4, fun e => e5 (by rw [e]), ⟨_, e6⟩, ⟨_, e7⟩, e8, e9⟩

/-- What the loop that writes holds on to. -/
def FO (w wr : World) (g1 k1 : Nat) (l : List Ent) (B2 E2 B3 bR : Nat) (v3 : Value) (s : St) (outs : List OutS) (A2 : Option Addr) (n : Nat) : Prop :=
  Below w.heap.size w wr ∧ TwinAt wr w.heap.size g1 k1 l ∧ Outs wr B3 v3 outs ∧ Blk wr bR 25 (stv s) ∧ Spoil wr B2 E2 A2 n ∧ w.heap.size ≤ B2 ∧ g1 < B2 ∧ E2 ≤ B3 ∧ E2 ≤ bR

theorem FO.set {w wr : World} {g1 k1 : Nat} {l : List Ent} {B2 E2 B3 bR : Nat} {v3 : Value} {s : St} {outs : List OutS} {g n : Nat} (h : FO w wr g1 k1 l B2 E2 B3 bR v3 s outs (some ⟨g, 0, none⟩) n) {p : Addr} (h1 : B2 ≤ p.block) (h2 : p.block < E2)
    (hp : p.block ≠ g ∨ ∃ j, p = ⟨g, j * 3, none⟩) (u : Value) : FO w (wr.setCell p u) g1 k1 l B2 E2 B3 bR v3 s outs (some ⟨g, 0, none⟩) n := by
  obtain ⟨q1, q2, q3, q4, q5, q6, q7, q8, q9⟩ := h
  have hg : wr.grownBy (wr.setCell p u) (some p.block) := only_setCell (World.grownBy.refl _ _) (.inl rfl) u
  refine ⟨q1.setCell (by omega) u, q2.kept hg (.inr (fun e => by
    have h : g1 = p.block := by simpa [Value.ownBlock] using e
    omega)), q3.keep hg (fun g' e => by
    have h : p.block = g' := by simpa using e
    omega), q4.far (by omega) u, q5.set hp u, q6, q7, q8, q9⟩

set_option maxHeartbeats 4000000 in
theorem foldsOf_walk (l : List Ent) (A : Option Addr) (c : Nat) (w : World) (ha : Ents w w.heap.size A l) (hl : l.length ≤ 9223372036854775807) (hlc : l.length ≤ c) (hc2 : c ≤ 9223372036854775807) (hwf : ∀ e ∈ l, wfEnt e) :
    Calls Try.prog 3 #[.slice A l.length c] w fun e w' => e = .returned (.bool true) ∧ Below w.heap.size w w' := by
  have hw := Below.refl w.heap.size w
  by_cases h1 : 500 < l.length
  · clear ha hwf
    go_enter Try.func3, Try.ntmps3
    go_wp2_with fail
    go_ret
    exact ⟨rfl, hw⟩
  have l1 : l.length ≤ 500 := by omega
  clear h1
  have EA : ∀ {w' : World}, Below w.heap.size w w' → Ents w' w'.heap.size A l := fun h => (ha.below h).more h.size
  clear ha
  have HW := Lib.hid (fun e he => (hwf e he).2.1 : ∀ e ∈ l, (Lit.int .i64 e.2.1).wf = true)
  clear hwf
  have hlen : (foldS l).2.length = l.length := fold_len l l.length (Nat.le_refl _)
  go_enter Try.func3, Try.ntmps3
  go_wp2_with fail
  refine (twin_any l A c _ (EA hw) (by omega)).mono ?_
  rintro e w1 ⟨g1, k1, rfl, T1, hw1⟩
  have hz1 := hw1.size
  have hT1 := T1.lt
  go_wp2_with fail
  refine (of_any l _ k1 _ T1.ents (by omega) HW.out).mono ?_
  rintro e w2 ⟨v2, rfl, hO2, hb⟩
  have hw2 := below_trans hw1 hb hz1
  have T2 := T1.keep hb
  have hz2 := hb.size
  clear hb hw1 T1
  have SP := hO2.toR
  obtain ⟨A2, c2, rfl, q1, q2, _⟩ := SP
  rw [hlen] at q1 hO2 ⊢
  have R2 := hO2.toR
  have SP := hO2.spoil
  have HL := Lib.hid hlen
  have hOf : ∀ W g1 k1, TwinAt W w.heap.size g1 k1 l → Calls Try.prog 15 #[.slice (some ⟨g1, 0, none⟩) l.length k1] W fun e w' => ∃ v, e = .returned (.tuple #[.agg (stv (foldS l).1).toArray, v]) ∧ Outs w' (W.heap.size + 2) v (foldS l).2 ∧ Below W.heap.size W w' :=
    fun W g1 k1 T => of_any l _ k1 _ T.ents (by omega) HW.out
  have hRf : ∀ W, Below w.heap.size w W → Calls Try.prog 16 #[.slice A l.length c] W fun e w' => ∃ v, e = .returned (.tuple #[.agg (stv (foldS l).1).toArray, v]) ∧ Outs w' (W.heap.size + 2) v (foldS l).2 ∧ Below W.heap.size W w' :=
    fun W h => rof_any l A c W (EA h) (by omega) hlc hc2
  clear hlen hO2
  generalize foldS l = fl at hOf hRf HL R2 ⊢
  obtain ⟨s, outs⟩ := fl
  dsimp only at hOf hRf HL R2 ⊢
  simp only [stv] at hOf hRf ⊢
  have hbS : Below w2.heap.size w2 (w2.alloc (.cells (stv s).toArray 25)) := (Below.refl _ _).alloc (Nat.le_refl _) _
  simp only [stv] at hbS
  have hBS := below_trans hw2 hbS hw2.size
  have T3 := T2.keep hbS
  have R3 := R2.keep hbS
  have S3 := SP.pure hbS (Nat.le_refl _)
  have D3 := Blk.new w2 25 (stv s)
  simp only [stv] at D3
  clear R2 T2 SP hbS
  go_wp2_with fail
  refine (hRf _ hBS).mono ?_
  rintro e w3 ⟨v3, rfl, hO3, hb⟩
  have hw3 := below_trans hBS hb hBS.size
  have hz3 := hb.size
  simp at hz3
  have T4 := T3.keep hb
  have R4 := R3.keep hb
  have S4 := S3.pure hb (by simp)
  have D4 := D3.keep hb
  have O4 := hO3
  simp only [World.size_alloc] at O4
  clear hO3 hb T3 R3 S3 D3 hBS
  have hbS : Below w3.heap.size w3 (w3.alloc (.cells (stv s).toArray 25)) := (Below.refl _ _).alloc (Nat.le_refl _) _
  simp only [stv] at hbS
  have hBS := below_trans hw3 hbS hw3.size
  have T5 := T4.keep hbS
  have R5 := R4.keep hbS
  have S5 := S4.pure hbS (by omega)
  have O5 := O4.pure hbS
  have d0 := D4.cell 0
  have d1 := D4.cell 1
  have d2 := D4.cell 2
  have d3 := D4.cell 3
  simp at d0 d1 d2 d3
  have F5 := Blk.new w3 25 (stv s)
  simp only [stv] at F5
  have ne1 : ¬ w2.heap.size = w3.heap.size := by omega
  have hs2 : w2.heap.size < w3.heap.size := by omega
  have bf0 : (s.tag != s.tag) = false := by simp
  have bf1 : (s.closed != s.closed) = false := by simp
  have bf2 : (s.sum != s.sum) = false := by simp
  have bf3 : (s.ver != s.ver) = false := by simp
  clear T4 R4 S4 O4 hbS D4
  go_wp2_with fail
  refine (same_outs outs _ _ _ R5 O5.toR).mono ?_
  rintro e w4 ⟨rfl, hb⟩
  have hw4 := below_trans hBS hb hBS.size
  have hz4 := hb.size
  simp at hz4
  have T6 := T5.keep hb
  have S6 := S5.pure hb (by simp; omega)
  have O6 := O5.pure hb
  have F6 := F5.keep hb
  clear hb T5 R5 S5 O5 F5 hBS
  go_wp2_with fail
  refine (left_any l A _ g1 k1 c _ T6 (EA hw4) (by omega)).mono ?_
  rintro e w5 ⟨rfl, hb⟩
  have hw5 := below_trans hw4 hb hw4.size
  have hz5 := hb.size
  have T7 := T6.keep hb
  have S7 := S6.pure hb (by omega)
  have O7 := O6.pure hb
  have F7 := F6.keep hb
  clear hb T6 S6 O6 F6 hw4 d0 d1 d2 d3
  have h0 : FO w w5 g1 k1 l (w1.heap.size + 2) w2.heap.size (w2.heap.size + 1 + 2) w3.heap.size v3 s outs A2 l.length := ⟨hw5, T7, O7, F7, S7, by omega, by omega, by omega, by omega⟩
  clear hw5 T7 O7 F7 S7
  go_wp2_with fail
  go_loopg [8] l.length (fun q i wr => ∃ j : Nat, q = l.length - j ∧ j ≤ l.length ∧ i = .int .i64 j ∧ FO w wr g1 k1 l (w1.heap.size + 2) w2.heap.size (w2.heap.size + 1 + 2) w3.heap.size v3 s outs A2 l.length)
  case atStart => exact ⟨0, rfl, by omega, rfl, h0⟩
  case round =>
    clear h0
    obtain ⟨j, hk, hj, rfl, hI⟩ := hrel
    have AA : Aside (gk = l.length - j) := hk
    clear hk
    by_cases hlt : j < l.length
    · obtain ⟨g, sl, rfl, hg1, hg2, ⟨x0, y0⟩, y1, y2, hsl⟩ := hI.2.2.2.2.1 j hlt
      have hI1 := Lib.hid hI
      clear hI
      rcases hsl with rfl | ⟨ge, rfl, e1, e2, e3, ⟨x1, e4⟩, ⟨x2, e5⟩, e6, e7⟩
      · go_wp2_with fail
        refine wp_loop_rounds 1 ?_
        rw [rounds_succ]
        go_wp2_with fail
        go_roundg (l.length - (j + 1))
        case measure => have hkk := AA.out; omega
        case rel => exact ⟨j + 1, rfl, by omega, by go_num, hI1.out.set (p := ⟨g, j * 3, none⟩) (by omega) (by omega) (.inr ⟨j, rfl⟩) _⟩
      · go_wp2_with fail
        refine wp_loop_rounds 2 ?_
        rw [rounds_succ]
        go_wp2_with fail
        have n1 : ¬ ge = g := e3
        have n2 : ¬ g = ge := fun h => e3 h.symm
        rw [rounds_succ]
        go_wp2_with fail
        go_roundg (l.length - (j + 1))
        case measure => have hkk := AA.out; omega
        case rel =>
          exact ⟨j + 1, rfl, by omega, by go_num, ((hI1.out.set (p := ⟨ge, 0, none⟩) (by simp; omega) (by simp; omega) (.inl (by simpa using e3)) _).set (p := ⟨ge, 1, none⟩) (by simp; omega) (by simp; omega) (.inl (by simpa using e3)) _).set (p := ⟨g, j * 3, none⟩) (by simp; omega) (by simp; omega) (.inr ⟨j, rfl⟩) _⟩
    · obtain rfl : j = l.length := by omega
      obtain ⟨hw6, T8, O8, F8, _⟩ := hI
      go_wp2_with fail
      refine (hOf _ _ _ T8).mono ?_
      rintro e w7 ⟨v7, rfl, hO7, hb⟩
      have hw7 := below_trans hw6 hb hw6.size
      have hz7 := hb.size
      have hF8 := F8.lt
      have O9 := O8.pure hb
      have F9 := F8.keep hb
      have R7 := hO7.toR
      clear hb O8 F8 T8 hw6 hO7
      have hbS : Below w7.heap.size w7 (w7.alloc (.cells (stv s).toArray 25)) := (Below.refl _ _).alloc (Nat.le_refl _) _
      simp only [stv] at hbS
      have hBS := below_trans hw7 hbS hw7.size
      have R8 := R7.keep hbS
      have O10 := O9.pure hbS
      have d0 := F9.cell 0
      have d1 := F9.cell 1
      have d2 := F9.cell 2
      have d3 := F9.cell 3
      simp [stv] at d0 d1 d2 d3
      have ne2 : ¬ w3.heap.size = w7.heap.size := by omega
      have hs3 : w3.heap.size < w7.heap.size := by omega
      clear R7 O9 hbS F9 hOf hRf
      go_wp2_with fail
      refine (same_outs outs _ _ _ R8 O10.toR).mono ?_
      rintro e w8 ⟨rfl, hb⟩
      have hw8 := below_trans hBS hb hBS.size
      clear hb
      go_wp2_with fail
      refine (works_any _).mono ?_
      rintro e wz ⟨rfl, hb⟩
      go_wp2_with fail
      go_ret
      exact ⟨rfl, below_trans hw8 hb hw8.size⟩
end Go.Proofs.Ytifeokabecgimaa
