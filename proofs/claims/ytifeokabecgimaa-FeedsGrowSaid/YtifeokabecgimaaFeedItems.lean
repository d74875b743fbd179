/-
  The walk over feeds.Items.
-/
import Derived.Test.YtifeokabecgimaaFeedClone
import Derived.Test.YtifeokabecgimaaFoldW
import Derived.Test.YtifeokabecgimaaIMap
import Derived.Test.YtifeokabecgimaaLogAt
import Derived.Deep.LoopGhost
set_option linter.unusedSimpArgs false
set_option linter.unusedVariables false
set_option maxRecDepth 100000
namespace Go.Proofs.Ytifeokabecgimaa
open Go Go.RowKit Go.Sq Go.Wd Go.Arch Go.Im

/-- The slices of all logs. -/
def Logs4At (w : World) (As : Nat → Option Addr) (cs : Nat → Nat) (M : Logs4) : Prop := ∀ i, i < 4 → LogAt w w.heap.size (As i, (M i).length, cs i) (M i)
def lsv (As : Nat → Option Addr) (cs : Nat → Nat) (M : Logs4) (i : Nat) : Value := .slice (As i) (M i).length (cs i)
def l4v (As : Nat → Option Addr) (cs : Nat → Nat) (M : Logs4) : List Value := [lsv As cs M 0, lsv As cs M 1, lsv As cs M 2, lsv As cs M 3]
theorem l4_at (As : Nat → Option Addr) (cs : Nat → Nat) (M : Logs4) {i : Nat} (h : i < 4) : (l4v As cs M)[i]? = some (.slice (As i) (M i).length (cs i)) := by
  obtain rfl | rfl | rfl | rfl : i = 0 ∨ i = 1 ∨ i = 2 ∨ i = 3 := by omega
  all_goals rfl
theorem below_grown2 {B g : Nat} {w w' : World} (hg : w.grownBy w' (some g)) (hB : B ≤ g) (hw : B ≤ w.heap.size) : Below B w w' := ⟨hg.os, hg.tape, hg.output, hg.size, fun k hk => hg.block k (by omega) (by intro e; cases e; omega)⟩
theorem EvC.own {w : World} {own : Option Nat} {sl : Sl} {evs : List (Int × Int)} (h : EvC w none sl evs) (hne : ∀ g, sl.1 = some ⟨g, 0, none⟩ → some g ≠ own) : EvC w own sl evs := by
  rcases h with h | ⟨g, c, k, a, h1, h2, h3, h4, h5, h6, h7⟩
  · exact .inl h
  · exact .inr ⟨g, c, k, a, h1, h2, h3, h4, h5, hne g (by rw [h1]), h7⟩
theorem wf_small {a : Int} (h : -9223372036854775808 ≤ a ∧ a ≤ 9223372036854775807) : (Lit.int .i64 a).wf = true := by
  simp only [Lit.wf, Bool.and_eq_true, decide_eq_true_eq]
  exact h
theorem below_same {w w' : World} (h : Below w.heap.size w w') : Below w.heap.size w w' := h
/-- What Items leaves. -/
def FeedPost (M : Logs4) (feed : List Spt) (w : World) (e : Ending) (w' : World) : Prop :=
  (itemsS M feed = none ∧ e = .returned (.tuple #[.slice none 0 0, .int .i64 2]) ∧ Below w.heap.size w w') ∨
  ∃ l v, itemsS M feed = some l ∧ e = .returned (.tuple #[v, .int .i64 0]) ∧ Its w' w.heap.size v l ∧ Below w.heap.size w w'
/-- What the first loop holds on to. -/
def AllI (w0 w : World) (bs vs : List Value) : Prop :=
  Below w0.heap.size w0 w ∧ Blk w w0.heap.size 60 bs ∧ Blk w (w0.heap.size + 1) 88 vs
def OutsI (w0 w : World) (M : Logs4) (vs : Nat → Value) (k : Nat) : Prop := ∀ i, i < k → Outs w (w0.heap.size + 2) (vs i) (foldS (M i)).2
theorem Logs4At.keep {w w' : World} {As : Nat → Option Addr} {cs : Nat → Nat} {M : Logs4} (h : Logs4At w As cs M) (hb : Below w.heap.size w w') : Logs4At w' As cs M := fun i hi => (h i hi).keep hb
theorem AllI.keep {w0 w w' : World} {bs vs : List Value} (h : AllI w0 w bs vs) (hb : Below w.heap.size w w') : AllI w0 w' bs vs :=
  ⟨below_trans h.1 hb h.1.size, h.2.1.keep hb, h.2.2.keep hb⟩
theorem OutsI.keep {w0 w w' : World} {M : Logs4} {vs : Nat → Value} {k : Nat} (h : OutsI w0 w M vs k) (hb : Below w.heap.size w w') : OutsI w0 w' M vs k := fun i hi => (h i hi).pure hb
/-- One cell of the table turns. -/
theorem AllI.set {w0 w : World} {bs vs : List Value} (h : AllI w0 w bs vs) (k : Nat) (v : Value) : AllI w0 (w.setCell ⟨w0.heap.size + 1, k, none⟩ v) bs (vs.set k v) := by
  have hg : w.grownBy (w.setCell ⟨w0.heap.size + 1, k, none⟩ v) (some (w0.heap.size + 1)) := only_setCell (World.grownBy.refl w _) (.inl rfl) v
  exact ⟨h.1.setCell (by simp) v, h.2.1.grown hg (by simp), h.2.2.set k v⟩
theorem OutsI.set {w0 w : World} {M : Logs4} {vs : Nat → Value} {k : Nat} (h : OutsI w0 w M vs k) (j : Nat) (v : Value) : OutsI w0 (w.setCell ⟨w0.heap.size + 1, j, none⟩ v) M vs k := fun i hi =>
  (h i hi).keep (only_setCell (World.grownBy.refl w _) (.inl rfl) v) (fun g e => by cases e; exact Nat.lt_succ_self _)
theorem OutsI.push {w0 w : World} {M : Logs4} {vs : Nat → Value} {k : Nat} (h : OutsI w0 w M vs k) {v : Value} (hv : Outs w (w0.heap.size + 2) v (foldS (M k)).2) : OutsI w0 w M (fun i => if i = k then v else vs i) (k + 1) := fun i hi => by
  by_cases he : i = k
  · subst he
    simpa using hv
  · simp only [he, if_false]
    exact h i (by omega)
theorem Outs.base {w : World} {B B' : Nat} {v : Value} {outs : List OutS} (h : Outs w B v outs) (hB : B' ≤ B) : Outs w B' v outs := by
  obtain ⟨ps, h1, h2, h3⟩ := h
  refine ⟨ps, h1, ⟨h2.1, ?_⟩, fun p hp => ?_⟩
  · rcases h2.2 with h | ⟨g, cap, cur, e1, h1, r⟩
    · exact .inl h
    · exact .inr ⟨g, cap, cur, e1, Nat.le_trans hB h1, r⟩
  · rcases h3 p hp with h | ⟨g, k, a, q1, q2, q3, q4⟩
    · exact .inl h
    · exact .inr ⟨g, k, a, q1, q2, by omega, q4⟩
theorem Outs.form {w : World} {B : Nat} {v : Value} {outs : List OutS} (h : Outs w B v outs) : ∃ A c, v = .slice A outs.length c := by
  obtain ⟨ps, rfl, h2, _⟩ := h
  rcases h2.2 with ⟨rfl, hl⟩ | ⟨g, cap, cur, rfl, _⟩
  · exact ⟨none, 0, by rw [List.length_map, hl]⟩
  · exact ⟨_, cap, by rw [List.length_map]⟩
/-- How many places of each stream came. -/
def cntG (l : List Spt) (j : Nat) : Int → Option Value := fun a => if cntS (l.take j) a = 0 then none else some (.int .i64 (cntS (l.take j) a))
theorem cntG_get (l : List Spt) (j : Nat) (a : Int) : (cntG l j a).getD (.int .i64 0) = .int .i64 (cntS (l.take j) a) := by
  unfold cntG
  split
  · rename_i h
    rw [h]
    rfl
  · rfl
theorem cntG_next {l : List Spt} {j : Nat} {p : Spt} (hp : l[j]? = some p) : upd (cntG l j) p.1 (.int .i64 ((cntS (l.take j) p.1 : Int) + 1)) = cntG l (j + 1) := by
  funext a
  unfold cntG upd
  rw [cnt_succ hp]
  by_cases h : a = p.1
  · subst h
    simp
  · have h' : ¬ p.1 = a := fun e => h e.symm
    simp [h, h']
/-- What the second loop holds on to. -/
def FJ (w1 w : World) (v : Value) (r : List IA) (n : Nat) (G : Int → Option Value) : Prop :=
  Below w1.heap.size w1 w ∧ IMap Try.prog 3 w w1.heap.size n G ∧ Its w w1.heap.size v r
theorem FJ.keep {w1 w w' : World} {v : Value} {r : List IA} {n : Nat} {G : Int → Option Value} (h : FJ w1 w v r n G) (hb : Below w.heap.size w w') : FJ w1 w' v r n G :=
  ⟨below_trans h.1 hb h.1.size, h.2.1.of_block (hb.block _ h.2.1.lt), h.2.2.keep hb⟩
theorem IMap.is_map22 {w : World} {m n : Nat} {G : Int → Option Value} (h : IMap Try.prog 3 w m n G) : ∃ es c, w.heap[m]? = some (.map es c) := by
  obtain ⟨D, ⟨es, clock, h1, _⟩, _⟩ := h
  exact ⟨_, _, h1⟩
theorem Its.not_map {w : World} {B m : Nat} {v : Value} {l : List IA} (h : Its w B v l) {es : Array MapEntry} {c : Nat} (hm : w.heap[m]? = some (.map es c)) : ∀ g, v.ownBlock = some g → g ≠ m := fun g hg e => by
  obtain ⟨ps, _, h2, _⟩ := h
  subst e
  rcases h2.2 with ⟨rfl, _⟩ | ⟨g', cap, cur, rfl, _, hh, _⟩
  · cases hg
  · have e2 : g' = g := by simpa [Value.ownBlock] using hg
    subst e2
    rw [hh] at hm
    cases hm
theorem EvC.not_map {w : World} {own : Option Nat} {sl : Sl} {evs : List (Int × Int)} (h : EvC w own sl evs) {m : Nat} {es : Array MapEntry} {c : Nat} (hm : w.heap[m]? = some (.map es c)) {w' : World} (hg : w.grownBy w' (some m)) : EvC w' own sl evs := by
  rcases h with h | ⟨g, c, k, a, h1, h2, h3, h4, h5, h6, h7, h8⟩
  · exact .inl h
  · have hne : g ≠ m := by
      intro e
      subst e
      simp [World.cell?, hm] at h7
    have hb := hg.block g h5 (fun e => hne (Option.some.inj e))
    exact .inr ⟨g, c, k, a, h1, h2, h3, h4, Nat.lt_of_lt_of_le h5 hg.size, h6, (World.cell?_of_block (a := ⟨g, 0, none⟩) hb).trans h7, (World.cell?_of_block (a := ⟨g, 1, none⟩) hb).trans h8⟩
theorem FJ.turn {w1 w w' : World} {v : Value} {r : List IA} {n n' : Nat} {G G' : Int → Option Value} (h : FJ w1 w v r n G) (hg : w.grownBy w' (some w1.heap.size)) (hm : IMap Try.prog 3 w' w1.heap.size n' G') : FJ w1 w' v r n' G' := by
  obtain ⟨es, c, he⟩ := IMap.is_map22 h.2.1
  refine ⟨h.1.trans (below_grown2 hg (Nat.le_refl _) h.1.size), hm, ?_⟩
  have hn := h.2.2.not_map he
  obtain ⟨ps, h1, h2, h3⟩ := h.2.2
  exact ⟨ps, h1, Gr.Row.beside h2 hg (fun g hg e => hn g hg (Option.some.inj e)), fun p hp => (h3 p hp).not_map he hg⟩
theorem FJ.app {w1 w w' : World} {v v' : Value} {r r' : List IA} {n : Nat} {G : Int → Option Value} (h : FJ w1 w v r n G) (hg : w.grownBy w' v.ownBlock) (hi : Its w' w1.heap.size v' r') : FJ w1 w' v' r' n G := by
  obtain ⟨es, c, he⟩ := IMap.is_map22 h.2.1
  have hn := h.2.2.not_map he
  exact ⟨Its.below h.1 hg h.2.2 h.1.size, h.2.1.of_block (hg.block _ h.2.1.lt (fun e => hn _ e.symm rfl)), hi⟩
theorem logs4_info : (Try.prog.info? 60).map (·.size) = some 4 := by kernel_rfl
theorem outc_info : (Try.prog.info? 33).map (·.size) = some 3 := by kernel_rfl
theorem fzeroI (w : World) : (zeroValue 3).run Try.prog w = .ok (.int .i64 0) w := by kernel_rfl
theorem idx4 (a b c d : Value) (k : Nat) (v : Value) (z : Int) (hz : z = k) (h : [a, b, c, d][k]? = some v) (w : World) : (Instr.index 60 (.agg #[a, b, c, d]) (.int .i64 z)).run Try.prog w = .ok v w := by
  subst hz
  have hk : k < 4 := (List.getElem?_eq_some_iff.1 h).1
  have hs : (sizeOf 22).run Try.prog w = .ok 1 w := by
    have := Try.sizeOf22
    simp [go_sem]
  obtain rfl | rfl | rfl | rfl : k = 0 ∨ k = 1 ∨ k = 2 ∨ k = 3 := by omega
  all_goals
    simp at h
    subst h
    simp [Instr.index, run_underlying Try.underlying60, go_sem, hs]
/-- Ahead of the second loop. -/
def Mid22 (w0 w : World) (As : Nat → Option Addr) (cs : Nat → Nat) (M : Logs4) (Ao : Nat → Option Addr) (co : Nat → Nat) : Prop :=
  Below w0.heap.size w0 w ∧ Logs4At w As cs M ∧ (∀ i, i < 4 → w.cell? ⟨w0.heap.size, i, none⟩ = some (.slice (As i) (M i).length (cs i))) ∧ (∀ i, i < 4 → w.cell? ⟨w0.heap.size + 1, i, none⟩ = some (.slice (Ao i) (M i).length (co i))) ∧
  (∀ i, i < 4 → Outs w (w0.heap.size + 2) (.slice (Ao i) (M i).length (co i)) (foldS (M i)).2) ∧ w0.heap.size + 1 < w.heap.size

set_option maxHeartbeats 8000000 in
theorem items_any (M : Logs4) (As : Nat → Option Addr) (cs : Nat → Nat) (feed : List Spt) (A : Option Addr) (c : Nat) (w : World) (HL : Logs4At w As cs M) (hwf : ∀ i, i < 4 → ∀ e ∈ M i, (Lit.int .i64 e.2.1).wf = true)
    (HF : Gr.Sl spotE w w.heap.size A feed) (hfl : feed.length ≤ 90000) :
    Calls Try.prog 26 #[.slice A feed.length c, .agg (l4v As cs M).toArray] w fun e w' => FeedPost M feed w e w' := by
  have hz : Below w.heap.size w ((w.alloc (.cells (l4v As cs M).toArray 60)).alloc (.cells #[.slice none 0 0, .slice none 0 0, .slice none 0 0, .slice none 0 0] 88)) := ((Below.refl _ _).alloc (Nat.le_refl _) _).alloc (by simp) _
  have HI : Hid (AllI w ((w.alloc (.cells (l4v As cs M).toArray 60)).alloc (.cells #[.slice none 0 0, .slice none 0 0, .slice none 0 0, .slice none 0 0] 88)) (l4v As cs M) [.slice none 0 0, .slice none 0 0, .slice none 0 0, .slice none 0 0]) :=
    Lib.hid ⟨hz, (Blk.new w _ _).alloc _, Blk.new1 w _ _ _⟩
  have HW := Lib.hid (And.intro hwf (And.intro HL HF))
  clear hwf hz HL HF
  go_enter Try.func26, Try.ntmps26
  go_wp2_with ((with_reducible refine at_list ?_); first | refine wpList_load_blk rfl 60 _ rfl _ rfl _ _ _ (HI.out.2.1) Try.underlying60 rfl logs4_info ?_)
  simp only [l4v, lsv] at HI ⊢
  generalize ((w.alloc (.cells #[.slice (As 0) (M 0).length (cs 0), .slice (As 1) (M 1).length (cs 1), .slice (As 2) (M 2).length (cs 2), .slice (As 3) (M 3).length (cs 3)] 60)).alloc (.cells #[.slice none 0 0, .slice none 0 0, .slice none 0 0, .slice none 0 0] 88)) = w0 at HI ⊢
  have HO : Hid (OutsI w w0 M (fun _ => .slice none 0 0) 0) := Lib.hid (fun i hi => by omega)
  -- round 0
  refine wp_loop_rounds 5 ?_
  rw [rounds_succ]
  have hix := idx4 (.slice (As 0) (M 0).length (cs 0)) (.slice (As 1) (M 1).length (cs 1)) (.slice (As 2) (M 2).length (cs 2)) (.slice (As 3) (M 3).length (cs 3)) 0 _ 0 rfl rfl w0
  by_cases h64 : 64 < (M 0).length
  case pos =>
    have h64i : (64 : Int) < ((M 0).length : Int) := by omega
    have hn : itemsS M feed = none := if_neg (fun h => by unfold fits4 at h; omega)
    have HN := Lib.hid hn
    clear hn
    go_wp2_with fail
    apply ret_of
    · simp only [results, Try.results26]
      go_simp
      with_reducible rfl
    refine ⟨rfl, ?_⟩
    exact .inl ⟨HN.out, rfl, HI.out.1⟩
  have g0 : (M 0).length ≤ 64 := by omega
  have h64i : ¬ (64 : Int) < ((M 0).length : Int) := by omega
  clear h64
  go_wp2_with fail
  clear hix
  refine (of_any (M 0) (As 0) (cs 0) _ ((HW.out.2.1.keep (below_same HI.out.1)) 0 (by omega)).2.2.2 (by omega) (HW.out.1 0 (by omega))).mono ?_
  rintro e w0' ⟨v0, rfl, hO, hb⟩
  obtain ⟨Ao0, co0, rfl⟩ := Outs.form hO
  have hlo : (foldS (M 0)).2.length = (M 0).length := fold_len (M 0) _ (Nat.le_refl _)
  rw [hlo] at hO ⊢
  have HI' := Lib.hid (HI.out.keep hb)
  have HO' := Lib.hid (HO.out.keep hb)
  have hO' : Outs w0' (w.heap.size + 2) (.slice Ao0 (M 0).length co0) (foldS (M 0)).2 := hO.base (by have := HI.out.2.2.lt; omega)
  have HO2 := Lib.hid hO'
  clear hlo hO hO' hb HI HO h64i
  have y0 := HI'.out.2.2.cell 0
  have f0 := HI'.out.2.2.frozen 0
  simp only [List.getElem?_cons_succ, List.getElem?_cons_zero] at y0
  go_wp2_with ((with_reducible refine cut_at 29 rfl ?_))
  refine Cut.go ?_
  have HI := Lib.hid (HI'.out.set 0 (.slice Ao0 (M 0).length co0))
  have HO := Lib.hid ((HO'.out.set 0 (.slice Ao0 (M 0).length co0)).push (HO2.out.keep (only_setCell (World.grownBy.refl w0' _) (.inl rfl) (.slice Ao0 (M 0).length co0)) (fun g e => by cases e; exact Nat.lt_succ_self _)))
  simp only [List.set_cons_succ, List.set_cons_zero] at HI
  generalize (w0'.setCell ⟨w.heap.size + 1, 0, none⟩ (.slice Ao0 (M 0).length co0)) = w0 at HI HO ⊢
  clear y0 f0 HI' HO' HO2
  go_wp2_with fail
  -- round 1
  skip
  rw [rounds_succ]
  have hix := idx4 (.slice (As 0) (M 0).length (cs 0)) (.slice (As 1) (M 1).length (cs 1)) (.slice (As 2) (M 2).length (cs 2)) (.slice (As 3) (M 3).length (cs 3)) 1 _ 1 rfl rfl w0
  by_cases h64 : 64 < (M 1).length
  case pos =>
    have h64i : (64 : Int) < ((M 1).length : Int) := by omega
    have hn : itemsS M feed = none := if_neg (fun h => by unfold fits4 at h; omega)
    have HN := Lib.hid hn
    clear hn
    go_wp2_with fail
    apply ret_of
    · simp only [results, Try.results26]
      go_simp
      with_reducible rfl
    refine ⟨rfl, ?_⟩
    exact .inl ⟨HN.out, rfl, HI.out.1⟩
  have g1 : (M 1).length ≤ 64 := by omega
  have h64i : ¬ (64 : Int) < ((M 1).length : Int) := by omega
  clear h64
  go_wp2_with fail
  clear hix
  refine (of_any (M 1) (As 1) (cs 1) _ ((HW.out.2.1.keep (below_same HI.out.1)) 1 (by omega)).2.2.2 (by omega) (HW.out.1 1 (by omega))).mono ?_
  rintro e w1' ⟨v1, rfl, hO, hb⟩
  obtain ⟨Ao1, co1, rfl⟩ := Outs.form hO
  have hlo : (foldS (M 1)).2.length = (M 1).length := fold_len (M 1) _ (Nat.le_refl _)
  rw [hlo] at hO ⊢
  have HI' := Lib.hid (HI.out.keep hb)
  have HO' := Lib.hid (HO.out.keep hb)
  have hO' : Outs w1' (w.heap.size + 2) (.slice Ao1 (M 1).length co1) (foldS (M 1)).2 := hO.base (by have := HI.out.2.2.lt; omega)
  have HO2 := Lib.hid hO'
  clear hlo hO hO' hb HI HO h64i
  have y0 := HI'.out.2.2.cell 1
  have f0 := HI'.out.2.2.frozen 1
  simp only [List.getElem?_cons_succ, List.getElem?_cons_zero] at y0
  go_wp2_with ((with_reducible refine cut_at 29 rfl ?_))
  refine Cut.go ?_
  have HI := Lib.hid (HI'.out.set 1 (.slice Ao1 (M 1).length co1))
  have HO := Lib.hid ((HO'.out.set 1 (.slice Ao1 (M 1).length co1)).push (HO2.out.keep (only_setCell (World.grownBy.refl w1' _) (.inl rfl) (.slice Ao1 (M 1).length co1)) (fun g e => by cases e; exact Nat.lt_succ_self _)))
  simp only [List.set_cons_succ, List.set_cons_zero] at HI
  generalize (w1'.setCell ⟨w.heap.size + 1, 1, none⟩ (.slice Ao1 (M 1).length co1)) = w0 at HI HO ⊢
  clear y0 f0 HI' HO' HO2
  go_wp2_with fail
  -- round 2
  skip
  rw [rounds_succ]
  have hix := idx4 (.slice (As 0) (M 0).length (cs 0)) (.slice (As 1) (M 1).length (cs 1)) (.slice (As 2) (M 2).length (cs 2)) (.slice (As 3) (M 3).length (cs 3)) 2 _ 2 rfl rfl w0
  by_cases h64 : 64 < (M 2).length
  case pos =>
    have h64i : (64 : Int) < ((M 2).length : Int) := by omega
    have hn : itemsS M feed = none := if_neg (fun h => by unfold fits4 at h; omega)
    have HN := Lib.hid hn
    clear hn
    go_wp2_with fail
    apply ret_of
    · simp only [results, Try.results26]
      go_simp
      with_reducible rfl
    refine ⟨rfl, ?_⟩
    exact .inl ⟨HN.out, rfl, HI.out.1⟩
  have g2 : (M 2).length ≤ 64 := by omega
  have h64i : ¬ (64 : Int) < ((M 2).length : Int) := by omega
  clear h64
  go_wp2_with fail
  clear hix
  refine (of_any (M 2) (As 2) (cs 2) _ ((HW.out.2.1.keep (below_same HI.out.1)) 2 (by omega)).2.2.2 (by omega) (HW.out.1 2 (by omega))).mono ?_
  rintro e w2' ⟨v2, rfl, hO, hb⟩
  obtain ⟨Ao2, co2, rfl⟩ := Outs.form hO
  have hlo : (foldS (M 2)).2.length = (M 2).length := fold_len (M 2) _ (Nat.le_refl _)
  rw [hlo] at hO ⊢
  have HI' := Lib.hid (HI.out.keep hb)
  have HO' := Lib.hid (HO.out.keep hb)
  have hO' : Outs w2' (w.heap.size + 2) (.slice Ao2 (M 2).length co2) (foldS (M 2)).2 := hO.base (by have := HI.out.2.2.lt; omega)
  have HO2 := Lib.hid hO'
  clear hlo hO hO' hb HI HO h64i
  have y0 := HI'.out.2.2.cell 2
  have f0 := HI'.out.2.2.frozen 2
  simp only [List.getElem?_cons_succ, List.getElem?_cons_zero] at y0
  go_wp2_with ((with_reducible refine cut_at 29 rfl ?_))
  refine Cut.go ?_
  have HI := Lib.hid (HI'.out.set 2 (.slice Ao2 (M 2).length co2))
  have HO := Lib.hid ((HO'.out.set 2 (.slice Ao2 (M 2).length co2)).push (HO2.out.keep (only_setCell (World.grownBy.refl w2' _) (.inl rfl) (.slice Ao2 (M 2).length co2)) (fun g e => by cases e; exact Nat.lt_succ_self _)))
  simp only [List.set_cons_succ, List.set_cons_zero] at HI
  generalize (w2'.setCell ⟨w.heap.size + 1, 2, none⟩ (.slice Ao2 (M 2).length co2)) = w0 at HI HO ⊢
  clear y0 f0 HI' HO' HO2
  go_wp2_with fail
  -- round 3
  skip
  rw [rounds_succ]
  have hix := idx4 (.slice (As 0) (M 0).length (cs 0)) (.slice (As 1) (M 1).length (cs 1)) (.slice (As 2) (M 2).length (cs 2)) (.slice (As 3) (M 3).length (cs 3)) 3 _ 3 rfl rfl w0
  by_cases h64 : 64 < (M 3).length
  case pos =>
    have h64i : (64 : Int) < ((M 3).length : Int) := by omega
    have hn : itemsS M feed = none := if_neg (fun h => by unfold fits4 at h; omega)
    have HN := Lib.hid hn
    clear hn
    go_wp2_with fail
    apply ret_of
    · simp only [results, Try.results26]
      go_simp
      with_reducible rfl
    refine ⟨rfl, ?_⟩
    exact .inl ⟨HN.out, rfl, HI.out.1⟩
  have g3 : (M 3).length ≤ 64 := by omega
  have h64i : ¬ (64 : Int) < ((M 3).length : Int) := by omega
  clear h64
  go_wp2_with fail
  clear hix
  refine (of_any (M 3) (As 3) (cs 3) _ ((HW.out.2.1.keep (below_same HI.out.1)) 3 (by omega)).2.2.2 (by omega) (HW.out.1 3 (by omega))).mono ?_
  rintro e w3' ⟨v3, rfl, hO, hb⟩
  obtain ⟨Ao3, co3, rfl⟩ := Outs.form hO
  have hlo : (foldS (M 3)).2.length = (M 3).length := fold_len (M 3) _ (Nat.le_refl _)
  rw [hlo] at hO ⊢
  have HI' := Lib.hid (HI.out.keep hb)
  have HO' := Lib.hid (HO.out.keep hb)
  have hO' : Outs w3' (w.heap.size + 2) (.slice Ao3 (M 3).length co3) (foldS (M 3)).2 := hO.base (by have := HI.out.2.2.lt; omega)
  have HO2 := Lib.hid hO'
  clear hlo hO hO' hb HI HO h64i
  have y0 := HI'.out.2.2.cell 3
  have f0 := HI'.out.2.2.frozen 3
  simp only [List.getElem?_cons_succ, List.getElem?_cons_zero] at y0
  go_wp2_with ((with_reducible refine cut_at 29 rfl ?_))
  refine Cut.go ?_
  have HI := Lib.hid (HI'.out.set 3 (.slice Ao3 (M 3).length co3))
  have HO := Lib.hid ((HO'.out.set 3 (.slice Ao3 (M 3).length co3)).push (HO2.out.keep (only_setCell (World.grownBy.refl w3' _) (.inl rfl) (.slice Ao3 (M 3).length co3)) (fun g e => by cases e; exact Nat.lt_succ_self _)))
  simp only [List.set_cons_succ, List.set_cons_zero] at HI
  generalize (w3'.setCell ⟨w.heap.size + 1, 3, none⟩ (.slice Ao3 (M 3).length co3)) = w0 at HI HO ⊢
  clear y0 f0 HI' HO' HO2
  go_wp2_with fail
  rw [rounds_succ]
  have hfit : fits4 M := ⟨g0, g1, g2, g3⟩
  have hall : itemsS M feed = itemsTo M feed feed.length := if_pos hfit
  obtain ⟨Ao, co, HM⟩ : ∃ Ao co, Hid (Mid22 w w0 As cs M Ao co) := ⟨fun i => if i = 0 then Ao0 else if i = 1 then Ao1 else if i = 2 then Ao2 else Ao3, fun i => if i = 0 then co0 else if i = 1 then co1 else if i = 2 then co2 else co3, Lib.hid (by
    refine ⟨HI.out.1, HW.out.2.1.keep (below_same HI.out.1), fun i hi => (HI.out.2.1.cell i).trans (l4_at As cs M hi), fun i hi => ?_, fun i hi => ?_, HI.out.2.2.lt⟩
    · rw [HI.out.2.2.cell i]
      obtain rfl | rfl | rfl | rfl : i = 0 ∨ i = 1 ∨ i = 2 ∨ i = 3 := by omega
      all_goals rfl
    · have h := HO.out i hi
      obtain rfl | rfl | rfl | rfl : i = 0 ∨ i = 1 ∨ i = 2 ∨ i = 3 := by omega
      all_goals simpa using h)⟩
  have hs4 : ∀ i, i < 4 → (M i).length ≤ 64 := fun i hi => by
    obtain rfl | rfl | rfl | rfl : i = 0 ∨ i = 1 ∨ i = 2 ∨ i = 3 := by omega
    all_goals assumption
  have HH := Lib.hid (And.intro hall (And.intro hs4 HW.out.2.2))
  clear hall hfit g0 g1 g2 g3 HI HO hs4
  have HJ : Hid (FJ w0 (w0.alloc (.map #[] 0)) (.slice none 0 0) [] 0 (cntG feed 0)) := Lib.hid ⟨(Below.refl _ _).alloc (Nat.le_refl _) _, IMap.made Try.prog 3 w0, Its.nil _ _⟩
  have hmk := run_makeMap (P := Try.prog) 89 w0
  go_wp2_with fail
  clear hmk
  generalize (w0.alloc (.map #[] 0)) = wm at HJ ⊢
  obtain ⟨m, hm⟩ : ∃ z, w0.heap.size = z := ⟨_, rfl⟩
  rw [hm]
  have HMm := Lib.hid hm
  clear hm
  go_loopg [10, 33] feed.length (fun q v i wr => ∃ (j : Nat) (r : List IA) (n : Nat), q = feed.length - j ∧ j ≤ feed.length ∧ i = .int .i64 j ∧ n ≤ j ∧ itemsTo M feed j = some r ∧ FJ w0 wr v r n (cntG feed j))
  case atStart => exact ⟨0, [], 0, rfl, by omega, rfl, Nat.le_refl _, rfl, HJ.out⟩
  case round =>
    clear HJ
    obtain ⟨j, r, n, hq, hj, rfl, hn, hr, hJ⟩ := hrel
    have AA : Aside (gk = feed.length - j) := hq
    have HJ := Lib.hid (And.intro hJ hr)
    clear hq hr hJ
    have hb0 : Below w.heap.size w wr := below_trans HM.out.1 (HJ.out.1.1) HM.out.1.size
    have HB := Lib.hid hb0
    by_cases hlt : j < feed.length
    · obtain ⟨b1, o1, x, rfl, hx, hbx, FA⟩ := HH.out.2.2.at_ hlt
      have p0 : wr.cell? ⟨b1, o1 + j * 2, none⟩ = some (.int .i64 x.1) := FA wr hb0 0 (by decide)
      have p1 : wr.cell? ⟨b1, o1 + j * 2 + 1, none⟩ = some (.int .i64 x.2) := FA wr hb0 1 (by decide)
      clear FA hb0
      obtain ⟨s, i⟩ := x
      have hal := (Below.refl wr.heap.size wr).alloc (Nat.le_refl _) (.cells #[.int .i64 s, .int .i64 i] 71)
      have BS := Blk.new wr 71 [.int .i64 s, .int .i64 i]
      have HJ2 := Lib.hid (HJ.out.1.keep hal)
      have HB2 := Lib.hid (below_trans HB.out hal HB.out.size)
      have HM2 := Lib.hid (below_trans HJ.out.1.1 hal HJ.out.1.1.size)
      clear hal
      dsimp only at p0 p1
      by_cases hg : goodS M feed j (s, i)
      case neg =>
        have HN := Lib.hid (all_bad hx.out hg)
        have FS : ∀ w', Below (wr.alloc (.cells #[.int .i64 s, .int .i64 i] 71)).heap.size (wr.alloc (.cells #[.int .i64 s, .int .i64 i] 71)) w' → w'.cell? ⟨wr.heap.size, 0, none⟩ = some (.int .i64 s) ∧ w'.cell? ⟨wr.heap.size, 1, none⟩ = some (.int .i64 i) := fun w' hw =>
          ⟨(BS.keep hw).cell 0, (BS.keep hw).cell 1⟩
        have hcc : s < 0 ∨ (¬ s < 0 ∧ 4 ≤ s) ∨ ∃ S : Nat, S < 4 ∧ s = (S : Int) ∧ (i ≠ cntS (feed.take j) S ∨ i = cntS (feed.take j) S ∧ ((M S).length : Int) ≤ i) := by
          by_cases h0 : s < 0
          · exact .inl h0
          · by_cases h4 : 4 ≤ s
            · exact .inr (.inl ⟨h0, h4⟩)
            · obtain ⟨S, rfl⟩ := Int.eq_ofNat_of_zero_le (Int.not_lt.1 h0)
              refine .inr (.inr ⟨S, by omega, rfl, ?_⟩)
              by_cases hc : i = cntS (feed.take j) S
              · refine .inr ⟨hc, ?_⟩
                rcases Int.lt_or_le i ((M S).length : Int) with hl | hl
                · exact absurd (show goodS M feed j ((S : Int), i) from ⟨Int.natCast_nonneg S, by show (S : Int) < 4; omega, hc, hl⟩) hg
                · exact hl
              · exact .inl hc
        clear hg
        rcases hcc with h0 | ⟨h0, h4⟩ | ⟨S, hS4, rfl, hi⟩
        case' inl =>
          go_wp2_with fail
          clear p0 p1
          refine wp_region_p ([(0, true), (1, true), (2, true), (3, true), (4, true), (5, true), (6, true), (7, true), (8, true), (9, true), (10, true), (11, true), (12, true), (13, true), (14, true), (15, true), (16, true), (17, true), (18, true), (19, true), (20, true), (21, true), (22, true), (23, true), (24, true), (25, true), (26, true)]) (fun w' => Below (wr.alloc (.cells #[.int .i64 s, .int .i64 i] 71)).heap.size (wr.alloc (.cells #[.int .i64 s, .int .i64 i] 71)) w') (by kernel_rfl) rfl (by kernel_rfl) (by kernel_rfl) ((Below.refl _ _).drew) rfl ?_
          intro KP RP TP hKP hTP hTP'
          simp only [pick, nth]
          go_wp2_with (first
            | (apply SeqP.skip; rfl; simp only [Act.put, List.setIfInBounds_toArray, List.set_cons_zero, List.set_cons_succ])
            | (apply SeqP.call; rfl; rfl; (intro w2 hw; have hw := hTP _ hw; ((obtain ⟨z0, z1⟩ := FS _ hw)); go_simp; exact ⟨rfl, rfl⟩); (intro w2 hw; have hw := hTP _ hw; ((obtain ⟨z0, z1⟩ := FS _ hw)); (first | fail)); simp only [Act.put, List.setIfInBounds_toArray, List.set_cons_zero, List.set_cons_succ])
            | (apply SeqP.pure; rfl; (intro w2 hw; have hw := hTP _ hw; ((obtain ⟨z0, z1⟩ := FS _ hw)); go_simp; with_reducible rfl); simp only [Act.put, List.setIfInBounds_toArray, List.set_cons_zero, List.set_cons_succ])
            | (apply SeqP.split; rfl; rfl; all_goals (intro hc; simp only [hc]; try simp only [beq_iff_eq, decide_eq_true_eq, beq_eq_false_iff_ne, decide_eq_false_iff_not, bne_iff_ne, ne_eq, Bool.not_eq_true', Bool.not_eq_false', Int.not_le, Int.not_lt, bne_eq_false_iff_eq, Bool.or_eq_true, Bool.and_eq_true, Bool.or_eq_false_iff] at hc)))
        case' inr.inl =>
          go_wp2_with fail
          clear p0 p1
          refine wp_region_p ([(0, true), (1, true), (2, true), (3, true), (4, true), (5, true), (6, true), (7, true), (8, true), (9, true), (10, true), (11, true), (12, true), (13, true), (14, true), (15, true), (16, true), (17, true), (18, true), (19, true), (20, true), (21, true), (22, true), (23, true), (24, true), (25, true), (26, true)]) (fun w' => Below (wr.alloc (.cells #[.int .i64 s, .int .i64 i] 71)).heap.size (wr.alloc (.cells #[.int .i64 s, .int .i64 i] 71)) w') (by kernel_rfl) rfl (by kernel_rfl) (by kernel_rfl) ((Below.refl _ _).drew) rfl ?_
          intro KP RP TP hKP hTP hTP'
          simp only [pick, nth]
          go_wp2_with (first
            | (apply SeqP.skip; rfl; simp only [Act.put, List.setIfInBounds_toArray, List.set_cons_zero, List.set_cons_succ])
            | (apply SeqP.call; rfl; rfl; (intro w2 hw; have hw := hTP _ hw; ((obtain ⟨z0, z1⟩ := FS _ hw)); go_simp; exact ⟨rfl, rfl⟩); (intro w2 hw; have hw := hTP _ hw; ((obtain ⟨z0, z1⟩ := FS _ hw)); (first | fail)); simp only [Act.put, List.setIfInBounds_toArray, List.set_cons_zero, List.set_cons_succ])
            | (apply SeqP.pure; rfl; (intro w2 hw; have hw := hTP _ hw; ((obtain ⟨z0, z1⟩ := FS _ hw)); go_simp; with_reducible rfl); simp only [Act.put, List.setIfInBounds_toArray, List.set_cons_zero, List.set_cons_succ])
            | (apply SeqP.split; rfl; rfl; all_goals (intro hc; simp only [hc]; try simp only [beq_iff_eq, decide_eq_true_eq, beq_eq_false_iff_ne, decide_eq_false_iff_not, bne_iff_ne, ne_eq, Bool.not_eq_true', Bool.not_eq_false', Int.not_le, Int.not_lt, bne_eq_false_iff_eq, Bool.or_eq_true, Bool.and_eq_true, Bool.or_eq_false_iff] at hc)))
        case' inr.inr =>
          have hS0 : ¬ (S : Int) < 0 := by omega
          have hS5 : ¬ (4 : Int) ≤ (S : Int) := by omega
          have hS4i : (S : Int) < 4 := by omega
          have hwS : (Lit.int .i64 (S : Int)).wf = true := wf_small (by omega)
          have FM : ∀ w', Below (wr.alloc (.cells #[.int .i64 (S : Int), .int .i64 i] 71)).heap.size (wr.alloc (.cells #[.int .i64 (S : Int), .int .i64 i] 71)) w' → (Instr.lookup 89 (.map (some m)) (.int .i64 S) false).run Try.prog w' = .ok (.int .i64 (cntS (feed.take j) S)) w' := fun w' hw => by
            have h := (HJ2.out.keep hw).2.1.look Try.underlying3 Try.underlying89 (fzeroI w') hwS
            rw [cntG_get, HMm.out] at h
            exact h
          have FL : ∀ w', Below (wr.alloc (.cells #[.int .i64 (S : Int), .int .i64 i] 71)).heap.size (wr.alloc (.cells #[.int .i64 (S : Int), .int .i64 i] 71)) w' → w'.cell? ⟨w.heap.size, S, none⟩ = some (.slice (As S) (M S).length (cs S)) := fun w' hw =>
            ((below_trans HM2.out hw HM2.out.size).cell (p := ⟨w.heap.size, S, none⟩) (by have := HM.out.2.2.2.2.2; show w.heap.size < w0.heap.size; omega)).trans (HM.out.2.2.1 S hS4)
          rcases hi with hi | ⟨rfl, hi⟩
          case' inl =>
            have hne : (i != (cntS (feed.take j) S : Int)) = true := by simpa using hi
            clear hi
            go_wp2_with fail
            clear p0 p1
            refine wp_region_p ([(0, true), (1, true), (2, true), (3, true), (4, true), (5, true), (6, true), (7, true), (8, true), (9, true), (10, true), (11, true), (12, true), (13, true), (14, true), (15, true), (16, true), (17, true), (18, true), (19, true), (20, true), (21, true), (22, true), (23, true), (24, true), (25, true), (26, true)]) (fun w' => Below (wr.alloc (.cells #[.int .i64 (S : Int), .int .i64 i] 71)).heap.size (wr.alloc (.cells #[.int .i64 (S : Int), .int .i64 i] 71)) w') (by kernel_rfl) rfl (by kernel_rfl) (by kernel_rfl) ((Below.refl _ _).drew) rfl ?_
            intro KP RP TP hKP hTP hTP'
            simp only [pick, nth]
            go_wp2_with (first
              | (apply SeqP.skip; rfl; simp only [Act.put, List.setIfInBounds_toArray, List.set_cons_zero, List.set_cons_succ])
              | (apply SeqP.call; rfl; rfl; (intro w2 hw; have hw := hTP _ hw; ((obtain ⟨z0, z1⟩ := FS _ hw; have z2 := FM _ hw)); go_simp; exact ⟨rfl, rfl⟩); (intro w2 hw; have hw := hTP _ hw; ((obtain ⟨z0, z1⟩ := FS _ hw; have z2 := FM _ hw)); (first | fail)); simp only [Act.put, List.setIfInBounds_toArray, List.set_cons_zero, List.set_cons_succ])
              | (apply SeqP.pure; rfl; (intro w2 hw; have hw := hTP _ hw; ((obtain ⟨z0, z1⟩ := FS _ hw; have z2 := FM _ hw)); go_simp; with_reducible rfl); simp only [Act.put, List.setIfInBounds_toArray, List.set_cons_zero, List.set_cons_succ])
              | (apply SeqP.split; rfl; rfl; all_goals (intro hc; simp only [hc]; try simp only [beq_iff_eq, decide_eq_true_eq, beq_eq_false_iff_ne, decide_eq_false_iff_not, bne_iff_ne, ne_eq, Bool.not_eq_true', Bool.not_eq_false', Int.not_le, Int.not_lt, bne_eq_false_iff_eq, Bool.or_eq_true, Bool.and_eq_true, Bool.or_eq_false_iff] at hc)))
          case' inr =>
            have hne : ((cntS (feed.take j) S : Int) != (cntS (feed.take j) S : Int)) = false := by simp
            go_wp2_with fail
            clear p0 p1
            refine wp_region_p ([(0, true), (1, true), (2, true), (3, true), (4, true), (5, true), (6, true), (7, true), (8, true), (9, true), (10, true), (11, true), (12, true), (13, true), (14, true), (15, true), (16, true), (17, true), (18, true), (19, true), (20, true), (21, true), (22, true), (23, true), (24, true), (25, true), (26, true)]) (fun w' => Below (wr.alloc (.cells #[.int .i64 (S : Int), .int .i64 (cntS (feed.take j) S : Int)] 71)).heap.size (wr.alloc (.cells #[.int .i64 (S : Int), .int .i64 (cntS (feed.take j) S : Int)] 71)) w') (by kernel_rfl) rfl (by kernel_rfl) (by kernel_rfl) ((Below.refl _ _).drew) rfl ?_
            intro KP RP TP hKP hTP hTP'
            simp only [pick, nth]
            go_wp2_with (first
              | (apply SeqP.skip; rfl; simp only [Act.put, List.setIfInBounds_toArray, List.set_cons_zero, List.set_cons_succ])
              | (apply SeqP.call; rfl; rfl; (intro w2 hw; have hw := hTP _ hw; ((obtain ⟨z0, z1⟩ := FS _ hw; have z2 := FM _ hw; have z3 := FL _ hw)); go_simp; exact ⟨rfl, rfl⟩); (intro w2 hw; have hw := hTP _ hw; ((obtain ⟨z0, z1⟩ := FS _ hw; have z2 := FM _ hw; have z3 := FL _ hw)); (first | fail)); simp only [Act.put, List.setIfInBounds_toArray, List.set_cons_zero, List.set_cons_succ])
              | (apply SeqP.pure; rfl; (intro w2 hw; have hw := hTP _ hw; ((obtain ⟨z0, z1⟩ := FS _ hw; have z2 := FM _ hw; have z3 := FL _ hw)); go_simp; with_reducible rfl); simp only [Act.put, List.setIfInBounds_toArray, List.set_cons_zero, List.set_cons_succ])
              | (apply SeqP.split; rfl; rfl; all_goals (intro hc; simp only [hc]; try simp only [beq_iff_eq, decide_eq_true_eq, beq_eq_false_iff_ne, decide_eq_false_iff_not, bne_iff_ne, ne_eq, Bool.not_eq_true', Bool.not_eq_false', Int.not_le, Int.not_lt, bne_eq_false_iff_eq, Bool.or_eq_true, Bool.and_eq_true, Bool.or_eq_false_iff] at hc)))
        all_goals
          apply SeqP.nil
          refine hKP _ _ (hTP' _ ((Below.refl _ _).drew)) ?_
          clear hKP hTP hTP'
          go_wp2_with fail
          apply ret_of
          · simp only [results, Try.results26]
            go_simp
            with_reducible rfl
          refine ⟨rfl, ?_⟩
          exact .inl ⟨by rw [HH.out.1]; exact HN.out, rfl, HB2.out.drew⟩
      case pos =>
        obtain ⟨hs0, hs4, hi, hl⟩ := hg
        dsimp only at hs0 hs4 hi hl
        obtain ⟨S, rfl⟩ := Int.eq_ofNat_of_zero_le hs0
        have hS4 : S < 4 := by omega
        obtain ⟨I, hI⟩ : ∃ z, cntS (feed.take j) S = z := ⟨_, rfl⟩
        rw [hI] at hi
        subst hi
        rw [show (S : Int).toNat = S from rfl] at hl
        have hIl : I < (M S).length := by omega
        have hS0 : ¬ (S : Int) < 0 := by omega
        have hS5 : ¬ (4 : Int) ≤ (S : Int) := by omega
        have hS4i : (S : Int) < 4 := by omega
        have hwS : (Lit.int .i64 (S : Int)).wf = true := wf_small (by omega)
        have hgood : goodS M feed j ((S : Int), (I : Int)) := ⟨Int.natCast_nonneg S, hS4i, by show (I : Int) = cntS (feed.take j) S; rw [hI], hl⟩
        obtain ⟨q, cap, o, so, hv, ho, hqB, hqlt, hc1, hc2, hE, d0, d1, d2⟩ := (HM.out.2.2.2.2.1 S hS4).read (k := I) (by rw [show (foldS (M S)).2.length = (M S).length from fold_len _ _ (Nat.le_refl _)]; exact hIl)
        obtain ⟨b2, o2, e, hAS, he, FE⟩ := (HM.out.2.1 S hS4).2.2.2.at_ hIl
        have hto := to_succ HJ.out.2 hx.out hgood
        have hitem : itemA M ((S : Int), (I : Int)) = (((S : Int), (I : Int)), ordOf e, o) := by
          unfold itemA
          rw [show ((S : Int), (I : Int)).1.toNat = S from rfl, show ((S : Int), (I : Int)).2.toNat = I from rfl, List.getD, List.getD, he.out, ho]
          rfl
        rw [hitem] at hto
        have hnx := cntG_next hx.out
        dsimp only at hnx
        rw [hI] at hnx
        have hsz0 := HM.out.2.2.2.2.2
        have hszr := HJ.out.1.1.size
        have hmlt := HJ.out.1.2.1.lt
        dsimp only at hAS
        have HT := Lib.hid (And.intro hto (And.intro hnx (And.intro hE.toC hI)))
        have FSt : ∀ w', Below w0.heap.size w0 w' → w'.cell? ⟨w.heap.size, S, none⟩ = some (.slice (some ⟨b2, o2, none⟩) (M S).length (cs S)) ∧ w'.cell? ⟨w.heap.size + 1, S, none⟩ = some (.slice (some ⟨q, 0, none⟩) (M S).length (co S)) := fun w' hw => by
          have h1 := (hw.cell (p := ⟨w.heap.size, S, none⟩) (by show w.heap.size < w0.heap.size; omega)).trans (HM.out.2.2.1 S hS4)
          have h2 := (hw.cell (p := ⟨w.heap.size + 1, S, none⟩) hsz0).trans (HM.out.2.2.2.1 S hS4)
          rw [hAS] at h1
          have hq : Ao S = some ⟨q, 0, none⟩ := by
            have := hv
            injection this
          rw [hq] at h2
          exact ⟨h1, h2⟩
        have FOc : ∀ w', Below w0.heap.size w0 w' → w'.cell? ⟨q, I * 3, none⟩ = some (.int .i64 o.1) ∧ w'.cell? ⟨q, I * 3 + 1, none⟩ = some (.int .i64 o.2.1) ∧ w'.cell? ⟨q, I * 3 + 2, none⟩ = some (.slice so.1 so.2.1 so.2.2) := fun w' hw =>
          ⟨(hw.cell (p := ⟨q, I * 3, none⟩) hqlt).trans d0, (hw.cell (p := ⟨q, I * 3 + 1, none⟩) hqlt).trans d1, (hw.cell (p := ⟨q, I * 3 + 2, none⟩) hqlt).trans d2⟩
        clear hto hitem hnx hv ho hE he hAS hs0 hs4 hgood hI
        obtain ⟨W2, hst, hm2, htu⟩ := (HJ2.out.keep (Below.refl _ _).drew).2.1.store Try.underlying3 Try.underlying89 (by simp only [maxLen]; omega) hwS (.int .i64 ((I : Int) + 1))
        rw [HT.out.2.1] at hm2
        have HJ3 := Lib.hid ((HJ2.out.keep (Below.refl _ _).drew).turn htu.grown hm2)
        have BS3 := BS.drew.grown htu.grown (fun e => by have := Option.some.inj e; omega)
        have hW2 : wr.heap.size < W2.heap.size := BS3.lt
        have hlkF : ∀ w', Below (wr.alloc (.cells #[.int .i64 (S : Int), .int .i64 (I : Int)] 71)).heap.size (wr.alloc (.cells #[.int .i64 (S : Int), .int .i64 (I : Int)] 71)) w' → (Instr.lookup 89 (.map (some m)) (.int .i64 S) false).run Try.prog w' = .ok (.int .i64 (I : Int)) w' := fun w' hw => by
          have h := (HJ2.out.keep hw).2.1.look Try.underlying3 Try.underlying89 (fzeroI w') hwS
          rw [cntG_get, HMm.out, HT.out.2.2.2] at h
          exact h
        rw [HMm.out] at hst
        have hII : ((I : Int) != (I : Int)) = false := by simp
        have hIl2 : ¬ ((M S).length : Int) ≤ (I : Int) := by omega
        have hIli : (I : Int) < ((M S).length : Int) := by omega
        have hI64 : (I : Int) < 64 := by have := HH.out.2.1 S hS4; omega
        go_wp2_with fail
        clear p0 p1
        refine wp_region_p ([(0, true), (1, true), (2, true), (3, true), (4, true), (5, true), (6, true), (7, true), (8, true), (9, true), (10, true), (11, true), (12, true), (13, true), (14, true), (15, true), (16, true), (17, true), (18, true), (19, true), (20, true), (21, true), (22, true), (23, true), (24, true), (25, true), (26, true)]) (fun w' => Below (wr.alloc (.cells #[.int .i64 (S : Int), .int .i64 (I : Int)] 71)).heap.size (wr.alloc (.cells #[.int .i64 (S : Int), .int .i64 (I : Int)] 71)) w') (by kernel_rfl) rfl (by kernel_rfl) (by kernel_rfl) ((Below.refl _ _).drew) rfl ?_
        intro KP RP TP hKP hTP hTP'
        simp only [pick, nth]
        go_wp2_with (first
          | (apply SeqP.skip; rfl; simp only [Act.put, List.setIfInBounds_toArray, List.set_cons_zero, List.set_cons_succ])
          | (apply SeqP.call; rfl; rfl; (intro w2 hw; have hw := hTP _ hw; ((have z0 := (BS.keep hw).cell 0; have z1 := (BS.keep hw).cell 1; simp only [List.getElem?_cons_succ, List.getElem?_cons_zero] at z0 z1; have z2 := hlkF _ hw; have z3 := (FSt _ (below_trans HM2.out hw HM2.out.size)).1)); go_simp; exact ⟨rfl, rfl⟩); (intro w2 hw; have hw := hTP _ hw; ((have z0 := (BS.keep hw).cell 0; have z1 := (BS.keep hw).cell 1; simp only [List.getElem?_cons_succ, List.getElem?_cons_zero] at z0 z1; have z2 := hlkF _ hw; have z3 := (FSt _ (below_trans HM2.out hw HM2.out.size)).1)); (first | fail)); simp only [Act.put, List.setIfInBounds_toArray, List.set_cons_zero, List.set_cons_succ])
          | (apply SeqP.pure; rfl; (intro w2 hw; have hw := hTP _ hw; ((have z0 := (BS.keep hw).cell 0; have z1 := (BS.keep hw).cell 1; simp only [List.getElem?_cons_succ, List.getElem?_cons_zero] at z0 z1; have z2 := hlkF _ hw; have z3 := (FSt _ (below_trans HM2.out hw HM2.out.size)).1)); go_simp; with_reducible rfl); simp only [Act.put, List.setIfInBounds_toArray, List.set_cons_zero, List.set_cons_succ])
          | (apply SeqP.split; rfl; rfl; all_goals (intro hc; simp only [hc]; try simp only [beq_iff_eq, decide_eq_true_eq, beq_eq_false_iff_ne, decide_eq_false_iff_not, bne_iff_ne, ne_eq, Bool.not_eq_true', Bool.not_eq_false', Int.not_le, Int.not_lt, bne_eq_false_iff_eq, Bool.or_eq_true, Bool.and_eq_true, Bool.or_eq_false_iff] at hc)))
        all_goals first | (exfalso; omega) | skip
        apply SeqP.nil
        refine hKP _ _ (hTP' _ ((Below.refl _ _).drew)) ?_
        clear hKP hTP hTP'
        have hlk := hlkF _ (Below.refl _ _).drew
        have z0 := BS.drew.cell 0
        have z1 := BS.drew.cell 1
        simp only [List.getElem?_cons_succ, List.getElem?_cons_zero] at z0 z1
        go_wp2_with fail
        clear hst hlk hlkF z0 z1 BS HJ2 hm2 htu
        have hFW2 : Below w0.heap.size w0 W2 := HJ3.out.1
        refine wp_region_p ([(0, true), (1, true), (2, true), (3, true), (4, true), (5, true), (6, true), (7, true), (8, false), (9, false)]) (fun w' => Below W2.heap.size W2 w') (by kernel_rfl) rfl (by kernel_rfl) (by kernel_rfl) ((Below.refl _ _).drew) rfl ?_
        intro KP RP TP hKP hTP hTP'
        simp only [pick, nth]
        go_wp2_with (first
          | (apply SeqP.skip; rfl; simp only [Act.put, List.setIfInBounds_toArray, List.set_cons_zero, List.set_cons_succ])
          | (apply SeqP.call; rfl; rfl; (intro w2 hw; have hw := hTP _ hw; ((have z0 := (BS3.keep hw).cell 0; have z1 := (BS3.keep hw).cell 1; simp only [List.getElem?_cons_succ, List.getElem?_cons_zero] at z0 z1; have z3 := (FSt _ (below_trans hFW2 hw hFW2.size)).2; obtain ⟨z4, z5, z6⟩ := FOc _ (below_trans hFW2 hw hFW2.size))); go_simp; exact ⟨rfl, rfl⟩); (intro w2 hw; have hw := hTP _ hw; ((have z0 := (BS3.keep hw).cell 0; have z1 := (BS3.keep hw).cell 1; simp only [List.getElem?_cons_succ, List.getElem?_cons_zero] at z0 z1; have z3 := (FSt _ (below_trans hFW2 hw hFW2.size)).2; obtain ⟨z4, z5, z6⟩ := FOc _ (below_trans hFW2 hw hFW2.size))); (first | fail)); simp only [Act.put, List.setIfInBounds_toArray, List.set_cons_zero, List.set_cons_succ])
          | (apply SeqP.pure; rfl; (intro w2 hw; have hw := hTP _ hw; ((have z0 := (BS3.keep hw).cell 0; have z1 := (BS3.keep hw).cell 1; simp only [List.getElem?_cons_succ, List.getElem?_cons_zero] at z0 z1; have z3 := (FSt _ (below_trans hFW2 hw hFW2.size)).2; obtain ⟨z4, z5, z6⟩ := FOc _ (below_trans hFW2 hw hFW2.size))); go_simp; with_reducible rfl); simp only [Act.put, List.setIfInBounds_toArray, List.set_cons_zero, List.set_cons_succ])
          | (apply SeqP.split; rfl; rfl; all_goals (intro hc; simp only [hc]; try simp only [beq_iff_eq, decide_eq_true_eq, beq_eq_false_iff_ne, decide_eq_false_iff_not, bne_iff_ne, ne_eq, Bool.not_eq_true', Bool.not_eq_false', Int.not_le, Int.not_lt, bne_eq_false_iff_eq, Bool.or_eq_true, Bool.and_eq_true, Bool.or_eq_false_iff] at hc)))
        apply SeqP.eff
        · rfl
        intro KE hKE
        go_wp2_with fail
        refine hKE _ _ (hTP' _ ((Below.refl _ _).drew.alloc (Nat.le_refl _) _)) ?_
        clear hKE KE
        apply SeqP.eff
        · rfl
        intro KE hKE
        go_wp2_with fail
        have hb3 : Below W2.heap.size W2 (W2.alloc (.cells #[.int .i64 o.1, .int .i64 o.2.1, .slice so.1 so.2.1 so.2.2] 33)).drew := ((Below.refl _ _).alloc (Nat.le_refl _) _).drew
        refine hKE _ _ (hTP' _ hb3) ?_
        clear hKE KE
        apply SeqP.nil
        refine hKP _ _ (hTP' _ (hb3)) ?_
        clear hKP hTP hTP'
        have BO := Blk.new W2 33 [.int .i64 o.1, .int .i64 o.2.1, .slice so.1 so.2.1 so.2.2]
        have hE4 := Lib.hid ((HT.out.2.2.1.any.pure HJ3.out.1).pure hb3)
        have hFW3 := below_trans hFW2 hb3 hFW2.size
        have hW3 : W2.heap.size < (W2.alloc (.cells #[.int .i64 o.1, .int .i64 o.2.1, .slice so.1 so.2.1 so.2.2] 33)).drew.heap.size := BO.lt
        have BO : Blk (W2.alloc (.cells #[.int .i64 o.1, .int .i64 o.2.1, .slice so.1 so.2.1 so.2.2] 33)).drew W2.heap.size 33 [.int .i64 o.1, .int .i64 o.2.1, .slice so.1 so.2.1 so.2.2] := BO
        generalize (W2.alloc (.cells #[.int .i64 o.1, .int .i64 o.2.1, .slice so.1 so.2.1 so.2.2] 33)).drew = W3 at BO hb3 hE4 hFW3 hW3 ⊢
        have y2 := BO.cell 2
        simp only [List.getElem?_cons_succ, List.getElem?_cons_zero] at y2
        go_wp2_with fail
        refine (clone_ev so o.2.2 none W3 hE4.out).mono ?_
        rintro e3 w4 ⟨sl, rfl, hE5, hb5, hsl⟩
        have BO5 := BO.keep hb5
        have fr := BO5.frozen 2
        have yy := BO5.cell 2
        simp only [List.getElem?_cons_succ, List.getElem?_cons_zero] at yy
        have hW5 := hb5.size
        have hg5 : w4.grownBy (w4.setCell ⟨W2.heap.size, 2, none⟩ (.slice sl.1 sl.2.1 sl.2.2)) (some W2.heap.size) := only_setCell (World.grownBy.refl w4 _) (.inl rfl) _
        have hb6 : Below W2.heap.size W2 (w4.setCell ⟨W2.heap.size, 2, none⟩ (.slice sl.1 sl.2.1 sl.2.2)) := (below_trans hb3 hb5 hb3.size).trans (below_grown2 hg5 (Nat.le_refl _) (by omega))
        have BO6 : Blk (w4.setCell ⟨W2.heap.size, 2, none⟩ (.slice sl.1 sl.2.1 sl.2.2)) W2.heap.size 33 [.int .i64 o.1, .int .i64 o.2.1, .slice sl.1 sl.2.1 sl.2.2] := BO5.set 2 _
        have hE6 : EvC (w4.setCell ⟨W2.heap.size, 2, none⟩ (.slice sl.1 sl.2.1 sl.2.2)) none sl o.2.2 := hE5.beside hg5.size (fun g hg => by
          rcases hE5 with ⟨_, h⟩ | ⟨g', c', k', a', h, _, _, _, hlt5, _⟩
          · rw [h] at hg; cases hg
          · rw [h] at hg
            cases hg
            exact hg5.block g hlt5 (fun e => by have := Option.some.inj e; have := hsl g (by rw [h]); omega))
        have HJ6 := Lib.hid (HJ3.out.keep hb6)
        have BS6 := BS3.keep hb6
        have hFW6 := below_trans hFW2 hb6 hFW2.size
        have hown := HJ3.out.2.2.lt
        have hE7 := Lib.hid (hE6.own (own := u10.ownBlock) (fun g hg e => by have := hown g e.symm; have := hsl g hg; omega))
        have BO6' := BO6
        clear BO y2 hE4 hFW3 hb5 hb3 BS3 HJ3 hFW2 hE5 hE6 BO5
        go_wp2_with fail
        clear fr yy hsl hg5 hb6 BO6
        have BO6 := BO6'
        clear BO6'
        generalize (w4.setCell ⟨W2.heap.size, 2, none⟩ (.slice sl.1 sl.2.1 sl.2.2)) = W5 at HJ6 BS6 hFW6 hE7 BO6 ⊢
        have hrl := (to_len HJ.out.2).1
        obtain ⟨v', w7, hrun, hI7, hg7⟩ := Its.snoc (w := W5.drew) (HJ6.out.2.2.keep (Below.refl _ _).drew) (((S : Int), (I : Int)), ordOf e, o) sl (hE7.out.pure (Below.refl _ _).drew) (by omega) (by have := HJ6.out.1.size; exact this) (H := W5.heap.size) rfl 56
        have HJ7 := Lib.hid ((HJ6.out.keep (Below.refl _ _).drew).app hg7 hI7)
        have HG7 := Lib.hid hg7
        have hown2 : ∀ g, u10.ownBlock = some g → g < wr.heap.size := fun g hg => (HJ.out.1.2.2.lt g hg).2
        clear hI7 hg7
        refine wp_region_p ([(0, true), (1, true), (2, true), (3, true), (4, true), (5, true), (6, true), (7, true), (8, true), (9, true), (10, true), (11, true), (12, true), (13, false), (14, false), (15, true)]) (fun w' => Below w0.heap.size w0 w' ∧ Blk w' wr.heap.size 71 [.int .i64 (S : Int), .int .i64 (I : Int)] ∧ Blk w' W2.heap.size 33 [.int .i64 o.1, .int .i64 o.2.1, .slice sl.1 sl.2.1 sl.2.2]) (by kernel_rfl) rfl (by kernel_rfl) (by kernel_rfl) (⟨hFW6.drew, BS6.drew, BO6.drew⟩) rfl ?_
        intro KP RP TP hKP hTP hTP'
        simp only [pick, nth]
        go_wp2_with (first
          | (apply SeqP.skip; rfl; simp only [Act.put, List.setIfInBounds_toArray, List.set_cons_zero, List.set_cons_succ])
          | (apply SeqP.call; rfl; rfl; (intro w2 hw; have hw := hTP _ hw; ((obtain ⟨q1, q2, q3⟩ := hw; have z0 := q2.cell 0; have z1 := q2.cell 1; have z4 := q3.cell 0; have z5 := q3.cell 1; have z6 := q3.cell 2; simp only [List.getElem?_cons_succ, List.getElem?_cons_zero] at z0 z1 z4 z5 z6; have z3 := (FSt _ q1).1; obtain ⟨y0, y1, y2, y3, y4, y5⟩ := FE _ q1)); go_simp; exact ⟨rfl, rfl⟩); (intro w2 hw; have hw := hTP _ hw; ((obtain ⟨q1, q2, q3⟩ := hw; have z0 := q2.cell 0; have z1 := q2.cell 1; have z4 := q3.cell 0; have z5 := q3.cell 1; have z6 := q3.cell 2; simp only [List.getElem?_cons_succ, List.getElem?_cons_zero] at z0 z1 z4 z5 z6; have z3 := (FSt _ q1).1; obtain ⟨y0, y1, y2, y3, y4, y5⟩ := FE _ q1)); (first | fail)); simp only [Act.put, List.setIfInBounds_toArray, List.set_cons_zero, List.set_cons_succ])
          | (apply SeqP.pure; rfl; (intro w2 hw; have hw := hTP _ hw; ((obtain ⟨q1, q2, q3⟩ := hw; have z0 := q2.cell 0; have z1 := q2.cell 1; have z4 := q3.cell 0; have z5 := q3.cell 1; have z6 := q3.cell 2; simp only [List.getElem?_cons_succ, List.getElem?_cons_zero] at z0 z1 z4 z5 z6; have z3 := (FSt _ q1).1; obtain ⟨y0, y1, y2, y3, y4, y5⟩ := FE _ q1)); go_simp; with_reducible rfl); simp only [Act.put, List.setIfInBounds_toArray, List.set_cons_zero, List.set_cons_succ])
          | (apply SeqP.split; rfl; rfl; all_goals (intro hc; simp only [hc]; try simp only [beq_iff_eq, decide_eq_true_eq, beq_eq_false_iff_ne, decide_eq_false_iff_not, bne_iff_ne, ne_eq, Bool.not_eq_true', Bool.not_eq_false', Int.not_le, Int.not_lt, bne_eq_false_iff_eq, Bool.or_eq_true, Bool.and_eq_true, Bool.or_eq_false_iff] at hc)))
        apply SeqP.eff
        · rfl
        intro KE hKE
        go_wp2_with fail
        refine hKE _ _ (hTP' _ ⟨hFW6.drew.alloc hFW6.size _, BS6.drew.alloc _, BO6.drew.alloc _⟩) ?_
        clear hKE KE
        apply SeqP.eff
        · rfl
        intro KE hKE
        refine oper_app (by rfl) (by rfl) (by rfl) hrun ?_
        have hown6 := HJ6.out.2.2.lt
        have hg7 := HG7.out
        have BS7 := BS6.drew.grown hg7 (fun e => by have := hown2 _ e.symm; omega)
        have BO7 := BO6.drew.grown hg7 (fun e => by have := hown2 _ e.symm; omega)
        refine hKE _ _ (hTP' _ ⟨HJ7.out.1, BS7, BO7⟩) ?_
        clear hKE KE hrun
        go_wp2_with (first
          | (apply SeqP.skip; rfl; simp only [Act.put, List.setIfInBounds_toArray, List.set_cons_zero, List.set_cons_succ])
          | (apply SeqP.call; rfl; rfl; (intro w2 hw; have hw := hTP _ hw; (skip); go_simp; exact ⟨rfl, rfl⟩); (intro w2 hw; have hw := hTP _ hw; (skip); (first | fail)); simp only [Act.put, List.setIfInBounds_toArray, List.set_cons_zero, List.set_cons_succ])
          | (apply SeqP.pure; rfl; (intro w2 hw; have hw := hTP _ hw; (skip); go_simp; with_reducible rfl); simp only [Act.put, List.setIfInBounds_toArray, List.set_cons_zero, List.set_cons_succ])
          | (apply SeqP.split; rfl; rfl; all_goals (intro hc; simp only [hc]; try simp only [beq_iff_eq, decide_eq_true_eq, beq_eq_false_iff_ne, decide_eq_false_iff_not, bne_iff_ne, ne_eq, Bool.not_eq_true', Bool.not_eq_false', Int.not_le, Int.not_lt, bne_eq_false_iff_eq, Bool.or_eq_true, Bool.and_eq_true, Bool.or_eq_false_iff] at hc)))
        apply SeqP.nil
        refine hKP _ _ (hTP' _ (⟨HJ7.out.1, BS7, BO7⟩)) ?_
        clear hKP hTP hTP'
        clear BS7 BO7 hown6 hg7 FSt FOc FE hFW6 BS6 BO6
        go_wp2_with fail
        go_roundg (feed.length - (j + 1))
        case measure => have hkk := AA.out; omega
        case rel => exact ⟨j + 1, _, n + 1, rfl, by omega, by go_num, by omega, HT.out.1, HJ7.out⟩
    · obtain rfl : j = feed.length := by omega
      go_wp2_with fail
      apply ret_of
      · simp only [results, Try.results26]
        go_simp
        with_reducible rfl
      refine ⟨rfl, ?_⟩
      exact .inr ⟨r, _, by rw [HH.out.1]; exact HJ.out.2, rfl, (HJ.out.1.2.2).base HM.out.1.size, HB.out⟩
end Go.Proofs.Ytifeokabecgimaa
