/-
  The walk over 'register.Apply'.
-/
import Derived.Test.YtbicefilfhcgoaaRegViewed
import Derived.Test.YtbicefilfhcgoaaSeqT
import Derived.Test.YtbicefilfhcgoaaRowOps2
set_option linter.unusedSimpArgs false
set_option linter.unusedVariables false
set_option maxRecDepth 100000
namespace Go.Proofs.Ytbicefilfhcgoaa
open Go Go.RowKit Go.Sq Go.Wd Go.Arch

/-- What Apply tells: a register and whether; its log. -/
def AppP (r : RegS) (x : RecS) (w : World) (e : Ending) (w' : World) : Prop :=
  ∃ sl : SlcE, e = .returned (.tuple #[.agg (rgv (regR (applyR r x)).1 sl).toArray, .bool (regR (applyR r x)).2]) ∧ (LogAt w' w'.heap.size sl (regR (applyR r x)).1.log ∧ ∀ b o, sl.1 = some ⟨b, o, none⟩ → w.heap.size ≤ b) ∧ Below w.heap.size w w'
theorem AppP.no {r : RegS} {x : RecS} {w w' : World} {e : Ending} (h : applyR r x = none) (he : e = .returned (.tuple #[.agg (rgv reg0 (none, 0, 0)).toArray, .bool false])) (hb : Below w.heap.size w w') : AppP r x w e w' := by
  refine ⟨(none, 0, 0), ?_, ?_, hb⟩
  · rw [h]; exact he
  · rw [h]; exact ⟨LogAt.nil, fun b o h => by cases h⟩
theorem AppP.yes {r a : RegS} {x : RecS} {w w' : World} {e : Ending} (h : applyR r x = some a) (sl : SlcE) (he : e = .returned (.tuple #[.agg (rgv a sl).toArray, .bool true])) (hl : LogAt w' w'.heap.size sl a.log) (hwh : ∀ b o, sl.1 = some ⟨b, o, none⟩ → w.heap.size ≤ b) (hb : Below w.heap.size w w') : AppP r x w e w' := by
  refine ⟨sl, ?_, ?_, hb⟩
  · rw [h]; exact he
  · rw [h]; exact ⟨hl, hwh⟩
theorem apply_bad {r : RegS} {x : RecS} (h : mayR r = false) : applyR r x = none := by
  unfold applyR; rw [if_neg (by rw [h]; simp)]

theorem Row.wh {w : World} {B B' : Nat} {A : Option Addr} {n c : Nat} {l : List Ent} (h : Row w B (.slice A n c) l) (hB : B' ≤ B) : ∀ b o, A = some ⟨b, o, none⟩ → B' ≤ b := by
  intro b o ho
  rcases h.where_ with h' | ⟨g, h', hg⟩
  · rw [h'] at ho; cases ho
  · rw [h'] at ho; cases ho; omega
theorem rgv_one (r : RegS) (sl : SlcE) : ∀ v ∈ rgv r sl, v.oneCell' = true := by simp [rgv, Value.oneCell']

set_option maxHeartbeats 4000000 in
theorem apply_off (r : RegS) (sl : SlcE) (x : RecV) (w : World) (hm : mayR r = false) (hl : LogAt w w.heap.size sl r.log) :
    Calls Try.prog 16 #[.agg (rgv r sl).toArray, .agg (rcv x).toArray] w (AppP r x.s w) := by
  have HM := Lib.hid (apply_bad (x := x.s) hm)
  have hz : Below w.heap.size w (((w.alloc (.cells (rgv r sl).toArray 24)).alloc (.cells (rcv x).toArray 27)).alloc (.cells (rgv reg0 (none, 0, 0)).toArray 24)) := (((Below.refl _ _).alloc (Nat.le_refl _) _).alloc (by simp) _).alloc (by simp; omega) _
  have BZ : Blk (((w.alloc (.cells (rgv r sl).toArray 24)).alloc (.cells (rcv x).toArray 27)).alloc (.cells (rgv reg0 (none, 0, 0)).toArray 24)) (w.heap.size + 1 + 1) 24 (rgv reg0 (none, 0, 0)) := Blk.newAt _ _ _ (by simp)
  have B0 : Blk (((w.alloc (.cells (rgv r sl).toArray 24)).alloc (.cells (rcv x).toArray 27)).alloc (.cells (rgv reg0 (none, 0, 0)).toArray 24)) w.heap.size 24 (rgv r sl) := ((Blk.new w _ _).alloc _).alloc _
  have hc := check15_any r sl _ (hl.keep hz)
  rw [hm] at hc
  have HH := Lib.hid (And.intro hz (And.intro BZ (And.intro B0 hc)))
  clear hz BZ B0 hc hl hm
  go_enter Try.func16, Try.ntmps16
  go_wp2_with ((with_reducible refine at_list ?_); refine wpList_load_blk rfl 24 _ rfl _ rfl _ _ _ (HH.out.2.2.1) Try.underlying24 rfl rg_info ?_)
  refine HH.out.2.2.2.mono ?_
  rintro e w1 ⟨rfl, hb⟩
  have hw1 := below_trans HH.out.1 hb HH.out.1.size
  have C2 := HH.out.2.1.keep hb
  clear HH hb
  go_wp2_with ((with_reducible refine at_list ?_); (refine wpList_store_blk rfl 24 _ _ rfl _ (rgv reg0 (none, 0, 0)) rfl rfl _ _ (C2) rg_info rfl (rgv_one _ _) ?_; intro w8 B8 hb8 hk8))
  have hw8 := hw1.trans (hb8 _ (by omega))
  apply ret_of
  · exact results_blk_tmp rfl _ _ _ _ _ _ rfl (B8) Try.underlying24 rfl rg_info _ rfl
  · exact ⟨rfl, AppP.no HM.out rfl hw8⟩

theorem LogAt.apart {w w' : World} {B k : Nat} {sl : SlcE} {l : List Ent} (h : LogAt w B sl l) (hB : B ≤ w.heap.size) (hg : w.grownBy w' (some k)) (hne : ∀ b o, sl.1 = some ⟨b, o, none⟩ → b ≠ k) : LogAt w' w'.heap.size sl l := by
  refine ⟨h.1, h.2.1, h.2.2.1, fun hl => ?_⟩
  obtain ⟨b, off, ha, hb, hc⟩ := h.2.2.2 hl
  have hk := hg.block b (by omega) (fun e => hne b off ha (Option.some.inj e))
  refine ⟨b, off, ha, Nat.lt_of_lt_of_le hb (Nat.le_trans hB hg.size), fun i e he => ?_⟩
  obtain ⟨c0, c1, c2, c3, c4, c5⟩ := hc i e he
  have key : ∀ o v, w.cell? ⟨b, o, none⟩ = some v → w'.cell? ⟨b, o, none⟩ = some v := fun o v hv => (World.cell?_of_block (a := ⟨b, o, none⟩) hk).trans hv
  exact ⟨key _ _ c0, key _ _ c1, key _ _ c2, key _ _ c3, key _ _ c4, key _ _ c5⟩
theorem viewR_some {r a : RegS} {x : RecS} (h : viewR r x = some a) : a = ⟨x.epoch, x.epoch, logR r x, r.com⟩ := by
  unfold viewR at h
  split at h
  · cases h; rfl
  · cases h

theorem Row.blkFar {w w' : World} {B k : Nat} {v : Value} {l : List Ent} (h : Row w B v l) (hk : ∀ i T cs, i ≠ k → Blk w i T cs → Blk w' i T cs) (hB : k < B) : Row w' B v l := by
  refine ⟨h.1, ?_⟩
  rcases h.2 with h' | ⟨g, cap, cur, h1, h2, h3, rest⟩
  · exact .inl h'
  · refine .inr ⟨g, cap, cur, h1, h2, ?_, rest⟩
    have := hk g 44 cur.toList (by omega) (by unfold Blk; simpa using h3)
    unfold Blk at this
    simpa using this

/-- One continuation for all leaves, with two letters. -/
theorem merge2 {G : Prop} (Inv : Nat → SlcE → World → Prop) (K : Act → World → Prop) {F : Nat → SlcE → Act} (h1 : (∀ g s w', Inv g s w' → K (F g s) w') → G) (h2 : ∀ g s w', Inv g s w' → K (F g s) w') : G := h1 h2

/-- What a kind comes to, of a register that may be. -/
theorem apply_1 {r : RegS} {x : RecS} (h : mayR r = true) (k : x.kind = 1) : applyR r x = if r.prom < x.epoch ∧ x.epoch ≤ 1048576 then some { r with prom := x.epoch } else none := by
  unfold applyR; rw [if_pos h, if_pos k]
theorem apply_2 {r : RegS} {x : RecS} (h : mayR r = true) (k : x.kind = 2) : applyR r x = viewR r x := by
  unfold applyR; rw [if_pos h, if_neg (by rw [k]; decide), if_pos k]
theorem apply_3 {r : RegS} {x : RecS} (h : mayR r = true) (k : x.kind = 3) : applyR r x = if r.com < x.len ∧ x.len ≤ r.log.length then some { r with com := x.len } else none := by
  unfold applyR; rw [if_pos h, if_neg (by rw [k]; decide), if_neg (by rw [k]; decide), if_pos k]
theorem apply_4 {r : RegS} {x : RecS} (h : mayR r = true) (k : x.kind = 4) : applyR r x = if r.prom = 0 ∧ mayR ⟨x.epoch, x.view, x.ents, x.len⟩ = true then some ⟨x.epoch, x.view, x.ents, x.len⟩ else none := by
  unfold applyR; rw [if_pos h, if_neg (by rw [k]; decide), if_neg (by rw [k]; decide), if_neg (by rw [k]; decide), if_pos k]
theorem apply_else {r : RegS} {x : RecS} (h1 : x.kind ≠ 1) (h2 : x.kind ≠ 2) (h3 : x.kind ≠ 3) (h4 : x.kind ≠ 4) : applyR r x = none := by
  unfold applyR; rw [if_neg h1, if_neg h2, if_neg h3, if_neg h4]; split <;> rfl

set_option maxHeartbeats 8000000 in
theorem apply_on (r : RegS) (sl : SlcE) (x : RecV) (w : World) (hm : mayR r = true) (hl : LogAt w w.heap.size sl r.log) (hx : LogAt w w.heap.size x.es x.ents) (hx2 : x.ents.length ≤ 1000) :
    Calls Try.prog 16 #[.agg (rgv r sl).toArray, .agg (rcv x).toArray] w (AppP r x.s w) := by
  have m64 : r.log.length ≤ 64 := ((okLog_iff _ _).1 ((mayR_iff r).1 hm).2.1).1
  have hz : Below w.heap.size w (((w.alloc (.cells (rgv r sl).toArray 24)).alloc (.cells (rcv x).toArray 27)).alloc (.cells (rgv reg0 (none, 0, 0)).toArray 24)) := (((Below.refl _ _).alloc (Nat.le_refl _) _).alloc (by simp) _).alloc (by simp; omega) _
  have BZ : Blk (((w.alloc (.cells (rgv r sl).toArray 24)).alloc (.cells (rcv x).toArray 27)).alloc (.cells (rgv reg0 (none, 0, 0)).toArray 24)) (w.heap.size + 1 + 1) 24 (rgv reg0 (none, 0, 0)) := Blk.newAt _ _ _ (by simp)
  have B0 : Blk (((w.alloc (.cells (rgv r sl).toArray 24)).alloc (.cells (rcv x).toArray 27)).alloc (.cells (rgv reg0 (none, 0, 0)).toArray 24)) w.heap.size 24 (rgv r sl) := ((Blk.new w _ _).alloc _).alloc _
  have B1 : Blk (((w.alloc (.cells (rgv r sl).toArray 24)).alloc (.cells (rcv x).toArray 27)).alloc (.cells (rgv reg0 (none, 0, 0)).toArray 24)) (w.heap.size + 1) 27 (rcv x) := (Blk.newAt _ _ _ (by simp)).alloc _
  have hc := check15_any r sl _ (hl.keep hz)
  rw [hm] at hc
  have HM := Lib.hid hm
  have HLX := Lib.hid (And.intro hl hx)
  have HH := Lib.hid (And.intro hz (And.intro BZ (And.intro B0 (And.intro B1 hc))))
  clear hz BZ B0 B1 hc hl hm hx
  go_enter Try.func16, Try.ntmps16
  go_wp2_with ((with_reducible refine at_list ?_); refine wpList_load_blk rfl 24 _ rfl _ rfl _ _ _ (HH.out.2.2.1) Try.underlying24 rfl rg_info ?_)
  refine HH.out.2.2.2.2.mono ?_
  rintro e w1 ⟨rfl, hb⟩
  have hw1 := below_trans HH.out.1 hb HH.out.1.size
  have hzB := hw1.size
  have C2 := HH.out.2.1.keep hb
  have C0 := HH.out.2.2.1.keep hb
  have C1 := HH.out.2.2.2.1.keep hb
  have l2 := C2.lt
  clear HH hb
  go_wp2_with ((with_reducible refine at_list ?_); refine wpList_load_blk rfl 24 _ rfl _ rfl _ _ _ (C0) Try.underlying24 rfl rg_info ?_)
  refine (regclone_any r sl _ (HLX.out.1.keep hw1) (by omega)).mono ?_
  rintro e w2 ⟨sl2, rfl, hR, hb⟩
  have hw2 := below_trans hw1 hb hw1.size
  have D2 := C2.keep hb
  have D0 := C0.keep hb
  have D1 := C1.keep hb
  clear hb C0 C1 C2
  have HR := Lib.hid hR
  clear hR hw1
  go_wp2_with ((with_reducible refine at_list ?_); first | (refine wpList_store_own rfl 24 _ _ rfl _ (rgv r sl2) rfl rfl _ _ (D0) rg_info rfl (rgv_one _ _) ?_; intro w3 E0 g3) | (with_reducible refine cut_at 14 rfl ?_))
  refine Cut.go ?_
  have hz2 := hw2.size
  have hw3 := hw2.trans (below_grown g3 (Nat.le_refl _) hz2)
  have E1 := D1.grown g3 (fun e => by have := Option.some.inj e; omega)
  have E2 := D2.grown g3 (fun e => by have := Option.some.inj e; omega)
  have R3 := Row.far HR.out g3 (by omega)
  have hz3 := hw3.size
  have l3 := E2.lt
  clear g3 HR D0 D1 D2 hw2
  have HR := Lib.hid R3
  clear R3
  have x0 := E1.cell 0
  have x2 := E1.cell 2
  have x3 := E1.cell 3
  have x5 := E1.cell 5
  have r0 := E0.cell 0
  have r2 := E0.cell 2
  have r3 := E0.cell 3
  have fr := E0.frozen
  have lE1 := E1.lt
  have lE0 := E0.lt
  simp [rcv] at x0 x2 x3 x5
  simp [rgv] at r0 r2 r3
  by_cases k1 : x.kind = 1
  case pos =>
    rw [k1] at x0
    have hA := apply_1 (x := x.s) HM.out k1
    have F0 := E0.set 0 (.int .i64 x.epoch)
    have F0 : Blk _ _ _ (rgv { r with prom := x.epoch } sl2) := F0.of_eq rfl
    have F2 := E2.far (p := ⟨w.heap.size, 0, none⟩) (by simp; omega) (.int .i64 x.epoch)
    have g4 : w3.grownBy (w3.setCell ⟨w.heap.size, 0, none⟩ (.int .i64 x.epoch)) (some w.heap.size) := by (repeat (first | with_reducible apply only_drew | with_reducible refine only_setCell ?_ (by first | exact Or.inl rfl | (right; simp; done) | (right; simp; omega) | (right; omega)) _ | with_reducible refine only_alloc ?_ _ | with_reducible exact World.grownBy.refl _ _ | with_reducible assumption))
    have hw4 := hw3.trans (below_grown g4 (Nat.le_refl _) hz3)
    have R4 := Row.far HR.out g4 (by omega)
    have H4 := Lib.hid (And.intro hw4 R4)
    clear hw4 R4 g4
    have hA' : applyR r x.s = if r.prom < x.epoch ∧ x.epoch ≤ 1048576 then some { r with prom := x.epoch } else none := hA
    clear hA k1
    by_cases hc : r.prom < x.epoch ∧ x.epoch ≤ 1048576
    · rw [if_pos hc] at hA'
      have HA := Lib.hid hA'
      obtain ⟨c1, c2⟩ := hc
      clear hA'
      go_wp2_with ((with_reducible refine at_list ?_); first | refine wpList_load_blk rfl 24 _ rfl _ rfl _ _ _ (F0) Try.underlying24 rfl rg_info ?_ | (refine wpList_store_own rfl 24 _ _ rfl _ (rgv _ sl2) rfl rfl _ _ (F2) rg_info rfl (rgv_one _ _) ?_; intro w8 B8 g8))
      have hw8 := H4.out.1.trans (below_grown g8 (by omega) H4.out.1.size)
      have R8 := Row.far H4.out.2 g8 (by omega)
      apply ret_of
      · exact results_blk_tmp rfl _ _ _ _ _ _ rfl (B8) Try.underlying24 rfl rg_info _ rfl
      · exact ⟨rfl, AppP.yes HA.out sl2 rfl R8.logAt (R8.wh hzB) hw8⟩
    · rw [if_neg hc] at hA'
      have HA := Lib.hid hA'
      clear hA'
      have hcc : (¬ r.prom < x.epoch) ∨ (r.prom < x.epoch ∧ ¬ x.epoch ≤ 1048576) := by
        by_cases h : r.prom < x.epoch
        · exact .inr ⟨h, fun h' => hc ⟨h, h'⟩⟩
        · exact .inl h
      clear hc
      rcases hcc with c1 | ⟨c1, c2⟩
      all_goals
        go_wp2_with ((with_reducible refine at_list ?_); (refine wpList_store_own rfl 24 _ _ rfl _ (rgv reg0 (none, 0, 0)) rfl rfl _ _ (F2) rg_info rfl (rgv_one _ _) ?_; intro w8 B8 g8))
        have hw8 := H4.out.1.trans (below_grown g8 (by omega) H4.out.1.size)
        apply ret_of
        · exact results_blk_tmp rfl _ _ _ _ _ _ rfl (B8) Try.underlying24 rfl rg_info _ rfl
        · exact ⟨rfl, AppP.no HA.out rfl hw8⟩
  by_cases k2 : x.kind = 2
  case pos =>
    rw [k2] at x0
    have hA : applyR r x.s = viewR r x.s := apply_2 (x := x.s) HM.out k2
    have HA := Lib.hid hA
    clear hA k1 k2
    go_wp2_with ((with_reducible refine at_list ?_); first | refine wpList_load_blk rfl 24 _ rfl _ rfl _ _ _ (E0) Try.underlying24 rfl rg_info ?_ | refine wpList_load_blk rfl 27 _ rfl _ rfl _ _ _ (E1) Try.underlying27 rfl rc_info ?_)
    refine (viewed_any r sl2 x w3 HM.out HR.out.logAt (HLX.out.2.keep hw3) hx2).mono ?_
    rintro e w4 ⟨slv, rfl, hLv, hb⟩
    have hw4 := below_trans hw3 hb hz3
    have G0 := E0.keep hb
    have G1 := E1.keep hb
    have G2 := E2.keep hb
    have hz4 := hw4.size
    have HLv := Lib.hid hLv
    clear hb hLv E0 E1 E2 x0 x2 x3 x5 r0 r2 r3 fr lE1 lE0
    have r2 := G0.cell 2
    have fr := G0.frozen
    have lG0 := G0.lt
    have lG1 := G1.lt
    simp [rgv] at r2
    have J0 := G0.set 2 (.slice slv.1 slv.2.1 slv.2.2)
    have J1 := G1.far (p := ⟨w.heap.size, 2, none⟩) (by simp) (.slice slv.1 slv.2.1 slv.2.2)
    have J2 := G2.far (p := ⟨w.heap.size, 2, none⟩) (by simp; omega) (.slice slv.1 slv.2.1 slv.2.2)
    have hw5 : Below w.heap.size w (w4.setCell ⟨w.heap.size, 2, none⟩ (.slice slv.1 slv.2.1 slv.2.2)) := hw4.setCell (Nat.le_refl _) _
    have gg : w4.grownBy (w4.setCell ⟨w.heap.size, 2, none⟩ (.slice slv.1 slv.2.1 slv.2.2)) (some w.heap.size) := by (repeat (first | with_reducible apply only_drew | with_reducible refine only_setCell ?_ (by first | exact Or.inl rfl | (right; simp; done) | (right; simp; omega) | (right; omega)) _ | with_reducible refine only_alloc ?_ _ | with_reducible exact World.grownBy.refl _ _ | with_reducible assumption))
    have HJ := Lib.hid (And.intro J0 (And.intro J1 (And.intro J2 (And.intro hw5 gg))))
    clear J0 J1 J2 hw5 gg
    go_wp2_with fail
    clear r2 fr
    obtain ⟨J0, J1, J2, hw5, gg⟩ := HJ.out
    clear HJ
    generalize w4.setCell ⟨w.heap.size, 2, none⟩ (.slice slv.1 slv.2.1 slv.2.2) = w5 at J0 J1 J2 hw5 gg ⊢
    have hz5 := hw5.size
    refine wp_region_p ([(0, true), (1, true), (2, true), (3, true), (4, true), (5, false), (6, true), (7, false)]) (fun w' => Below w.heap.size w w' ∧ Blk w' (w.heap.size + 1) 27 (rcv x)) (by kernel_rfl) rfl (by kernel_rfl) (by kernel_rfl) (⟨hw5.drew, J1.drew⟩) rfl ?_
    intro KP RP TP hKP hTP hTP'
    simp only [pick, nth]
    go_wp2_with (first
      | (apply SeqP.skip; rfl; simp only [Act.put, List.setIfInBounds_toArray, List.set_cons_zero, List.set_cons_succ])
      | (apply SeqP.call; rfl; rfl; (intro w2 hw; have hw := hTP _ hw; ((have x2 := hw.2.cell 2; simp [rcv] at x2)); go_simp; exact ⟨rfl, rfl⟩); (intro w2 hw; have hw := hTP _ hw; ((have x2 := hw.2.cell 2; simp [rcv] at x2)); (first | fail)); simp only [Act.put, List.setIfInBounds_toArray, List.set_cons_zero, List.set_cons_succ])
      | (apply SeqP.pure; rfl; (intro w2 hw; have hw := hTP _ hw; ((have x2 := hw.2.cell 2; simp [rcv] at x2)); go_simp; with_reducible rfl); simp only [Act.put, List.setIfInBounds_toArray, List.set_cons_zero, List.set_cons_succ])
      | (apply SeqP.split; rfl; rfl; all_goals (intro hc; simp only [hc]; try simp only [beq_iff_eq, decide_eq_true_eq, beq_eq_false_iff_ne, decide_eq_false_iff_not, bne_iff_ne, ne_eq, Bool.not_eq_true', Bool.not_eq_false', Int.not_le, Int.not_lt, bne_eq_false_iff_eq, Bool.or_eq_true, Bool.and_eq_true, Bool.or_eq_false_iff] at hc)))
    have y0 := J0.drew.cell 0
    have y1 := J0.drew.cell 1
    have fr := J0.drew.frozen
    have lJ0 := J0.lt
    simp [rgv] at y0 y1
    apply SeqP.eff
    · rfl
    intro KE hKE
    go_wp2_with fail
    have hw6 : Below w.heap.size w (w5.drew.setCell ⟨w.heap.size, 0, none⟩ (.int .i64 x.epoch)) := hw5.drew.setCell (Nat.le_refl _) _
    have L1 := J1.drew.far (p := ⟨w.heap.size, 0, none⟩) (by simp) (.int .i64 x.epoch)
    refine hKE _ _ (hTP' _ ⟨hw6, L1⟩) ?_
    clear hKE KE
    go_wp2_with (first
      | (apply SeqP.skip; rfl; simp only [Act.put, List.setIfInBounds_toArray, List.set_cons_zero, List.set_cons_succ])
      | (apply SeqP.call; rfl; rfl; (intro w2 hw; have hw := hTP _ hw; ((have x2 := hw.2.cell 2; simp [rcv] at x2)); go_simp; exact ⟨rfl, rfl⟩); (intro w2 hw; have hw := hTP _ hw; ((have x2 := hw.2.cell 2; simp [rcv] at x2)); (first | fail)); simp only [Act.put, List.setIfInBounds_toArray, List.set_cons_zero, List.set_cons_succ])
      | (apply SeqP.pure; rfl; (intro w2 hw; have hw := hTP _ hw; ((have x2 := hw.2.cell 2; simp [rcv] at x2)); go_simp; with_reducible rfl); simp only [Act.put, List.setIfInBounds_toArray, List.set_cons_zero, List.set_cons_succ])
      | (apply SeqP.split; rfl; rfl; all_goals (intro hc; simp only [hc]; try simp only [beq_iff_eq, decide_eq_true_eq, beq_eq_false_iff_ne, decide_eq_false_iff_not, bne_iff_ne, ne_eq, Bool.not_eq_true', Bool.not_eq_false', Int.not_le, Int.not_lt, bne_eq_false_iff_eq, Bool.or_eq_true, Bool.and_eq_true, Bool.or_eq_false_iff] at hc)))
    have hJ6 := J0.set 0 (.int .i64 x.epoch)
    have z1 : (w5.setCell ⟨w.heap.size, 0, none⟩ (.int .i64 x.epoch)).cell? ⟨w.heap.size, 1, none⟩ = some (.int .i64 r.view) := hJ6.cell 1
    have fr6 := hJ6.frozen
    have y2 : w5.cell? ⟨w.heap.size, 1, none⟩ = some (.int .i64 r.view) := J0.cell 1
    have fr5 := J0.frozen
    apply SeqP.eff
    · rfl
    intro KE hKE
    clear y0 y1 fr
    go_wp2_with fail
    have hw7 : Below w.heap.size w ((w5.drew.setCell ⟨w.heap.size, 0, none⟩ (.int .i64 x.epoch)).setCell ⟨w.heap.size, 1, none⟩ (.int .i64 x.epoch)) := hw6.setCell (Nat.le_refl _) _
    have M1 := L1.far (p := ⟨w.heap.size, 1, none⟩) (by simp) (.int .i64 x.epoch)
    refine hKE _ _ (hTP' _ ⟨hw7, M1⟩) ?_
    clear hKE KE
    apply SeqP.nil
    refine hKP _ _ (hTP' _ (⟨hw7, M1⟩)) ?_
    clear hKP hTP hTP'
    have K0 := ((J0.set 0 (.int .i64 x.epoch)).set 1 (.int .i64 x.epoch)).drew
    have K2 := ((J2.far (p := ⟨w.heap.size, 0, none⟩) (by simp; omega) (.int .i64 x.epoch)).far (p := ⟨w.heap.size, 1, none⟩) (by simp; omega) (.int .i64 x.epoch)).drew
    have hw7' : Below w.heap.size w ((w5.setCell ⟨w.heap.size, 0, none⟩ (.int .i64 x.epoch)).setCell ⟨w.heap.size, 1, none⟩ (.int .i64 x.epoch)).drew := ((hw5.setCell (Nat.le_refl _) _).setCell (Nat.le_refl _) _).drew
    have g7 : w5.grownBy ((w5.setCell ⟨w.heap.size, 0, none⟩ (.int .i64 x.epoch)).setCell ⟨w.heap.size, 1, none⟩ (.int .i64 x.epoch)).drew (some w.heap.size) := by (repeat (first | with_reducible apply only_drew | with_reducible refine only_setCell ?_ (by first | exact Or.inl rfl | (right; simp; done) | (right; simp; omega) | (right; omega)) _ | with_reducible refine only_alloc ?_ _ | with_reducible exact World.grownBy.refl _ _ | with_reducible assumption))
    clear z1 fr6 y2 fr5 hJ6 J0 J1 J2 hw6 L1 M1 hw7
    have hw7 := hw7'
    clear hw7'
    generalize ((w5.setCell ⟨w.heap.size, 0, none⟩ (.int .i64 x.epoch)).setCell ⟨w.heap.size, 1, none⟩ (.int .i64 x.epoch)).drew = w7 at hw7 K0 K2 g7 ⊢
    have hz7 := hw7.size
    cases hv : viewR r x.s with
    | none =>
      have HN := Lib.hid (HA.out.trans hv)
      clear hv
      simp only [Option.isSome_none]
      go_wp2_with ((with_reducible refine at_list ?_); (refine wpList_store_own rfl 24 _ _ rfl _ (rgv reg0 (none, 0, 0)) rfl rfl _ _ (K2) rg_info rfl (rgv_one _ _) ?_; intro w8 B8 g8))
      have hw8 := hw7.trans (below_grown g8 (by omega) hz7)
      apply ret_of
      · exact results_blk_tmp rfl _ _ _ _ _ _ rfl (B8) Try.underlying24 rfl rg_info _ rfl
      · exact ⟨rfl, AppP.no HN.out rfl hw8⟩
    | some a =>
      have HY := Lib.hid (HA.out.trans hv)
      obtain ⟨hL4, hwh⟩ := HLv.out a hv
      have ha := viewR_some hv
      have hne : ∀ b o, slv.1 = some ⟨b, o, none⟩ → w.heap.size + 1 + 1 < b := by
        intro b o hb
        rcases hwh with h | ⟨g, h, hg⟩
        · rcases Row.where_ HR.out with h2 | ⟨g, h2, hg⟩
          · rw [h2] at h; rw [h] at hb; cases hb
          · rw [h2] at h; rw [h] at hb; cases hb; omega
        · rw [h] at hb; cases hb; omega
      have hL5 := hL4.apart (Nat.le_refl _) gg (fun b o h => by have := hne b o h; omega)
      have hL7 := hL5.apart (Nat.le_refl _) g7 (fun b o h => by have := hne b o h; omega)
      have HL7 := Lib.hid (And.intro hL7 hne)
      have K0 : Blk w7 w.heap.size 24 (rgv a slv) := K0.of_eq (by rw [ha]; rfl)
      clear hL4 hwh hL5 hL7 hne ha hv
      simp only [Option.isSome_some]
      go_wp2_with ((with_reducible refine at_list ?_); first | refine wpList_load_blk rfl 24 _ rfl _ rfl _ _ _ (K0) Try.underlying24 rfl rg_info ?_ | (refine wpList_store_own rfl 24 _ _ rfl _ (rgv _ slv) rfl rfl _ _ (K2) rg_info rfl (rgv_one _ _) ?_; intro w8 B8 g8))
      have hw8 := hw7.trans (below_grown g8 (by omega) hz7)
      have hL8 := HL7.out.1.apart (Nat.le_refl _) g8 (fun b o h => by have := HL7.out.2 b o h; omega)
      apply ret_of
      · exact results_blk_tmp rfl _ _ _ _ _ _ rfl (B8) Try.underlying24 rfl rg_info _ rfl
      · exact ⟨rfl, AppP.yes HY.out slv rfl hL8 (fun b o h => by have := HL7.out.2 b o h; omega) hw8⟩
  by_cases k3 : x.kind = 3
  case pos =>
    rw [k3] at x0
    have hA : applyR r x.s = if r.com < x.len ∧ x.len ≤ r.log.length then some { r with com := x.len } else none := apply_3 (x := x.s) HM.out k3
    have hln : sl2.2.1 = r.log.length := HR.out.logAt.1
    rw [hln] at r2
    have F0 := E0.set 3 (.int .i64 x.len)
    have F0 : Blk _ _ _ (rgv { r with com := x.len } sl2) := F0.of_eq rfl
    have F2 := E2.far (p := ⟨w.heap.size, 3, none⟩) (by simp; omega) (.int .i64 x.len)
    have g4 : w3.grownBy (w3.setCell ⟨w.heap.size, 3, none⟩ (.int .i64 x.len)) (some w.heap.size) := by (repeat (first | with_reducible apply only_drew | with_reducible refine only_setCell ?_ (by first | exact Or.inl rfl | (right; simp; done) | (right; simp; omega) | (right; omega)) _ | with_reducible refine only_alloc ?_ _ | with_reducible exact World.grownBy.refl _ _ | with_reducible assumption))
    have hw4 := hw3.trans (below_grown g4 (Nat.le_refl _) hz3)
    have R4 := Row.far HR.out g4 (by omega)
    have H4 := Lib.hid (And.intro hw4 R4)
    clear hw4 R4 g4 hln k1 k2 k3
    by_cases hc : r.com < x.len ∧ x.len ≤ (r.log.length : Int)
    · rw [if_pos hc] at hA
      have HA := Lib.hid hA
      obtain ⟨c1, c2⟩ := hc
      have d1 : decide (x.len ≤ (r.log.length : Int)) = true := decide_eq_true c2
      clear hA
      go_wp2_with ((with_reducible refine at_list ?_); first | refine wpList_load_blk rfl 24 _ rfl _ rfl _ _ _ (F0) Try.underlying24 rfl rg_info ?_ | (refine wpList_store_own rfl 24 _ _ rfl _ (rgv _ sl2) rfl rfl _ _ (F2) rg_info rfl (rgv_one _ _) ?_; intro w8 B8 g8))
      have hw8 := H4.out.1.trans (below_grown g8 (by omega) H4.out.1.size)
      have R8 := Row.far H4.out.2 g8 (by omega)
      apply ret_of
      · exact results_blk_tmp rfl _ _ _ _ _ _ rfl (B8) Try.underlying24 rfl rg_info _ rfl
      · exact ⟨rfl, AppP.yes HA.out sl2 rfl R8.logAt (R8.wh hzB) hw8⟩
    · rw [if_neg hc] at hA
      have HA := Lib.hid hA
      clear hA
      have hcc : (¬ r.com < x.len) ∨ (r.com < x.len ∧ ¬ x.len ≤ (r.log.length : Int)) := by
        by_cases h : r.com < x.len
        · exact .inr ⟨h, fun h' => hc ⟨h, h'⟩⟩
        · exact .inl h
      clear hc
      rcases hcc with c1 | ⟨c1, c2⟩
      case' inr => have d1 : decide (x.len ≤ (r.log.length : Int)) = false := decide_eq_false c2
      all_goals
        go_wp2_with ((with_reducible refine at_list ?_); (refine wpList_store_own rfl 24 _ _ rfl _ (rgv reg0 (none, 0, 0)) rfl rfl _ _ (F2) rg_info rfl (rgv_one _ _) ?_; intro w8 B8 g8))
        have hw8 := H4.out.1.trans (below_grown g8 (by omega) H4.out.1.size)
        apply ret_of
        · exact results_blk_tmp rfl _ _ _ _ _ _ rfl (B8) Try.underlying24 rfl rg_info _ rfl
        · exact ⟨rfl, AppP.no HA.out rfl hw8⟩
  by_cases k4 : x.kind = 4
  case pos =>
    rw [k4] at x0
    have hA : applyR r x.s = if r.prom = 0 ∧ mayR ⟨x.epoch, x.view, x.ents, x.len⟩ = true then some ⟨x.epoch, x.view, x.ents, x.len⟩ else none := apply_4 (x := x.s) HM.out k4
    have HA := Lib.hid hA
    have hes : x.es.2.1 = x.ents.length := HLX.out.2.1
    have HLE : Hid (∀ W', Below w.heap.size w W' → LogAt W' W'.heap.size (x.es.1, x.ents.length, x.es.2.2) x.ents) := Lib.hid (fun W' h => by have h2 := HLX.out.2.keep h; exact ⟨rfl, h2.2.1, h2.2.2.1, h2.2.2.2⟩)
    clear hA k1 k2 k3 k4 x2 x3 x5 r2 r3
    go_wp2_with fail
    refine wp_region_t (.quiet 0 (.quiet 1 (.quiet 2 (.quiet 3 (.quiet 4 (.quiet 5 (.quiet 7 (.quiet 8 (.two 6 10 (.quiet 9 (.one 10 (.one 11 .done))) (.one 6 (.quiet 9 (.one 11 .done)))))))))))) (fun w' => Below w.heap.size w w' ∧ Blk w' (w.heap.size + 1) 27 (rcv x)) (by kernel_rfl) (by kernel_rfl) (by kernel_rfl) (by kernel_rfl) (⟨hw3.drew, E1.drew⟩) rfl ?_
    intro KP RP TP hKP hTP hTP'
    simp only [Sch.fill, nth]
    apply merge2 (Inv := fun g s w' => Below w.heap.size w w' ∧ Blk w' w.heap.size 24 (rgv r sl2) ∧ Blk w' (w.heap.size + 1) 27 (rcv x) ∧ Blk w' (w.heap.size + 1 + 1) 24 (rgv reg0 (none, 0, 0)) ∧ Blk w' g 24 (rgv ⟨x.epoch, x.view, x.ents, x.len⟩ s) ∧ LogAt w' w'.heap.size s x.ents ∧ (∀ b o, s.1 = some ⟨b, o, none⟩ → w.heap.size + 1 + 1 < b) ∧ w.heap.size + 1 + 1 < g) (K := KP)
    · intro HK
      go_wp2_with (first
        | (apply SeqT.skip; rfl; simp only [Act.put, List.setIfInBounds_toArray, List.set_cons_zero, List.set_cons_succ])
        | (apply SeqT.pure; rfl; (intro w2 hw; have hw := hTP _ hw; (have z2 := hw.2.cell 2; have z3 := hw.2.cell 3; have z5 := hw.2.cell 5; have z6 := hw.2.cell 6; simp [rcv] at z2 z3 z5 z6); go_simp; with_reducible rfl); simp only [Act.put, List.setIfInBounds_toArray, List.set_cons_zero, List.set_cons_succ]))
      apply SeqT.two
      · apply EffT.go
        · rfl
        intro KE hKE
        go_wp2_with fail
        have hC := clone_any x.ents x.es.1 x.es.2.2 w3.drew (HLE.out _ hw3.drew) (by omega)
        refine hC.mono ?_
        clear hC
        rintro e w4 ⟨v, rfl, hRv, hb⟩
        obtain ⟨s, rfl, hs⟩ := hRv.log
        have hwhere := Row.where_ hRv
        have hw4 := below_trans hw3.drew hb hz3
        have F0 := E0.drew.keep hb
        have F1 := E1.drew.keep hb
        have F2 := E2.drew.keep hb
        have hz4 := hb.size
        have lF2 := F2.lt
        refine hKE _ _ (hTP' _ ⟨hw4, F1⟩) ?_
        clear hKE KE
        go_wp2_with (first
          | (apply SeqT.skip; rfl; simp only [Act.put, List.setIfInBounds_toArray, List.set_cons_zero, List.set_cons_succ])
          | (apply SeqT.pure; rfl; (intro w2 hw; have hw := hTP _ hw; (have z2 := hw.2.cell 2; have z3 := hw.2.cell 3; have z5 := hw.2.cell 5; have z6 := hw.2.cell 6; simp [rcv] at z2 z3 z5 z6); go_simp; with_reducible rfl); simp only [Act.put, List.setIfInBounds_toArray, List.set_cons_zero, List.set_cons_succ]))
        apply SeqT.one
        apply EffT.go
        · rfl
        intro KE hKE
        go_wp2_with fail
        have ZZ := Blk.new w4 24 (rgv reg0 (none, 0, 0))
        have hwA := hw4.alloc hw4.size (.cells (rgv reg0 (none, 0, 0)).toArray 24)
        have A0 := F0.alloc (.cells (rgv reg0 (none, 0, 0)).toArray 24)
        have A1 := F1.alloc (.cells (rgv reg0 (none, 0, 0)).toArray 24)
        have A2 := F2.alloc (.cells (rgv reg0 (none, 0, 0)).toArray 24)
        refine hKE _ _ (hTP' _ ⟨hwA, A1⟩) ?_
        clear hKE KE
        apply SeqT.one
        apply EffT.go
        · rfl
        intro KE hKE
        refine wp_store_blk 24 _ _ rfl _ (rgv ⟨x.epoch, x.view, x.ents, x.len⟩ s) rfl rfl _ _ ZZ rg_info rfl (rgv_one _ _) ?_
        intro w5 B5 hb5 hk5
        have hw5 := hwA.trans (hb5 _ (by omega))
        have P0 := hk5 _ _ _ (by omega) A0
        have P1 := hk5 _ _ _ (by omega) A1
        have P2 := hk5 _ _ _ (by omega) A2
        have hsl := hs.keep (((Below.refl _ _).alloc (Nat.le_refl _) _).trans (hb5 _ (Nat.le_refl _)))
        have hwh : ∀ b o, s.1 = some ⟨b, o, none⟩ → w.heap.size + 1 + 1 < b := by
          intro b o hb
          rcases hwhere with h | ⟨g, h, hg⟩
          · rw [h] at hb; cases hb
          · rw [h] at hb; have e := congrArg Addr.block (Option.some.inj hb); have hg' : w3.heap.size ≤ g := hg; simp only at e; omega
        have hgt : w.heap.size + 1 + 1 < w4.heap.size := by omega
        refine hKE _ _ (hTP' _ ⟨hw5, P1⟩) ?_
        clear hKE KE
        go_wp2_with (first
          | (apply SeqT.skip; rfl; simp only [Act.put, List.setIfInBounds_toArray, List.set_cons_zero, List.set_cons_succ])
          | (apply SeqT.pure; rfl; (intro w2 hw; have hw := hTP _ hw; (have z2 := hw.2.cell 2; have z3 := hw.2.cell 3; have z5 := hw.2.cell 5; have z6 := hw.2.cell 6; simp [rcv] at z2 z3 z5 z6); go_simp; with_reducible rfl); simp only [Act.put, List.setIfInBounds_toArray, List.set_cons_zero, List.set_cons_succ]))
        apply SeqT.done
        clear hb5 hk5 A0 A1 A2 ZZ
        generalize w4.heap.size = gg at B5 hgt ⊢
        exact HK gg s _ ⟨hw5, P0, P1, P2, B5, hsl, hwh, hgt⟩
      · have ZZ := Blk.new w3.drew 24 (rgv reg0 (none, 0, 0))
        have hwA := hw3.drew.alloc hz3 (.cells (rgv reg0 (none, 0, 0)).toArray 24)
        have A0 := E0.drew.alloc (.cells (rgv reg0 (none, 0, 0)).toArray 24)
        have A1 := E1.drew.alloc (.cells (rgv reg0 (none, 0, 0)).toArray 24)
        have A2 := E2.drew.alloc (.cells (rgv reg0 (none, 0, 0)).toArray 24)
        have hsz : (w3.drew.alloc (.cells (rgv reg0 (none, 0, 0)).toArray 24)).heap.size = w3.heap.size + 1 := by simp
        have hC := clone_any x.ents x.es.1 x.es.2.2 (w3.drew.alloc (.cells (rgv reg0 (none, 0, 0)).toArray 24)) (HLE.out _ hwA) (by omega)
        have HC := Lib.hid hC
        clear hC
        apply EffT.go
        · rfl
        intro KE hKE
        go_wp2_with fail
        refine hKE _ _ (hTP' _ ⟨hwA, A1⟩) ?_
        clear hKE KE
        apply SeqT.one
        apply EffT.go
        · rfl
        intro KE hKE
        go_wp2_with fail
        refine HC.out.mono ?_
        rintro e w4 ⟨v, rfl, hRv, hb⟩
        obtain ⟨s, rfl, hs⟩ := hRv.log
        have hwhere := Row.where_ hRv
        have hw4 := below_trans hwA hb hwA.size
        have F0 := A0.keep hb
        have F1 := A1.keep hb
        have F2 := A2.keep hb
        have Z1 := ZZ.keep hb
        refine hKE _ _ (hTP' _ ⟨hw4, F1⟩) ?_
        clear hKE KE hb A0 A1 A2 ZZ HC
        go_wp2_with (first
          | (apply SeqT.skip; rfl; simp only [Act.put, List.setIfInBounds_toArray, List.set_cons_zero, List.set_cons_succ])
          | (apply SeqT.pure; rfl; (intro w2 hw; have hw := hTP _ hw; (have z2 := hw.2.cell 2; have z3 := hw.2.cell 3; have z5 := hw.2.cell 5; have z6 := hw.2.cell 6; simp [rcv] at z2 z3 z5 z6); go_simp; with_reducible rfl); simp only [Act.put, List.setIfInBounds_toArray, List.set_cons_zero, List.set_cons_succ]))
        apply SeqT.one
        apply EffT.go
        · rfl
        intro KE hKE
        refine wp_store_blk 24 _ _ rfl _ (rgv ⟨x.epoch, x.view, x.ents, x.len⟩ s) rfl rfl _ _ Z1 rg_info rfl (rgv_one _ _) ?_
        intro w5 B5 hb5 hk5
        have hw5 := hw4.trans (hb5 _ hz3)
        have P0 := hk5 _ _ _ (by show w.heap.size ≠ w3.heap.size; omega) F0
        have P1 := hk5 _ _ _ (by show w.heap.size + 1 ≠ w3.heap.size; omega) F1
        have P2 := hk5 _ _ _ (by show w.heap.size + 1 + 1 ≠ w3.heap.size; omega) F2
        have hsl := (hRv.blkFar hk5 (by rw [hsz]; exact Nat.lt_succ_self _)).logAt
        have hwh : ∀ b o, s.1 = some ⟨b, o, none⟩ → w.heap.size + 1 + 1 < b := by
          intro b o hb
          rcases hwhere with h | ⟨g, h, hg⟩
          · rw [h] at hb; cases hb
          · rw [h] at hb; cases hb; rw [hsz] at hg; omega
        have hgt : w.heap.size + 1 + 1 < w3.heap.size := by omega
        refine hKE _ _ (hTP' _ ⟨hw5, P1⟩) ?_
        clear hKE KE
        go_wp2_with (first
          | (apply SeqT.skip; rfl; simp only [Act.put, List.setIfInBounds_toArray, List.set_cons_zero, List.set_cons_succ])
          | (apply SeqT.pure; rfl; (intro w2 hw; have hw := hTP _ hw; (have z2 := hw.2.cell 2; have z3 := hw.2.cell 3; have z5 := hw.2.cell 5; have z6 := hw.2.cell 6; simp [rcv] at z2 z3 z5 z6); go_simp; with_reducible rfl); simp only [Act.put, List.setIfInBounds_toArray, List.set_cons_zero, List.set_cons_succ]))
        apply SeqT.done
        clear hb5 hk5 F0 F1 F2 Z1
        have B5' : Blk w5 w3.heap.size 24 (rgv ⟨x.epoch, x.view, x.ents, x.len⟩ s) := B5
        clear B5
        generalize w3.heap.size = gg at B5' hgt ⊢
        exact HK gg s _ ⟨hw5, P0, P1, P2, B5', hsl, hwh, hgt⟩
    · intro g s w5 hI
      refine hKP _ _ (hTP' _ ⟨hI.1, hI.2.2.1⟩) ?_
      clear hKP hTP hTP' E0 E1 E2 x0 r0 fr lE1 lE0
      obtain ⟨hw5, P0, P1, P2, PG, hsl, hwh, hgt⟩ := hI
      have hz5 := hw5.size
      have r0 : w5.cell? ⟨w.heap.size, 0, none⟩ = some (.int .i64 r.prom) := P0.cell 0
      have lP0 := P0.lt
      have lPG := PG.lt
      by_cases hp : r.prom = 0
      · have hpb : (r.prom == 0) = true := by rw [beq_iff_eq]; exact hp
        have HP := Lib.hid hp
        clear hp
        go_wp2_with ((with_reducible refine at_list ?_); refine wpList_load_blk_g 24 _ rfl rfl _ rfl _ _ _ (PG) Try.underlying24 rfl rg_info ?_)
        refine (check15_any ⟨x.epoch, x.view, x.ents, x.len⟩ s w5 hsl).mono ?_
        rintro e w6 ⟨rfl, hb⟩
        have hw6 := below_trans hw5 hb hz5
        have Q0 := P0.keep hb
        have Q2 := P2.keep hb
        have QG := PG.keep hb
        have hs6 := hsl.keep hb
        have hz6 := hw6.size
        clear hb P0 P1 P2 PG r0 hsl
        cases hm2 : mayR ⟨x.epoch, x.view, x.ents, x.len⟩ with
        | false =>
          have hN : applyR r x.s = none := by rw [HA.out, if_neg (fun h => by rw [hm2] at h; cases h.2)]
          have HN := Lib.hid hN
          clear hN hm2
          go_wp2_with ((with_reducible refine at_list ?_); first | refine wpList_load_blk rfl 24 _ rfl _ rfl _ _ _ (QG) Try.underlying24 rfl rg_info ?_ | (refine wpList_store_own rfl 24 _ _ rfl _ (rgv _ s) rfl rfl _ _ (Q0) rg_info rfl (rgv_one _ _) ?_; intro w7 B7 g7) | (refine wpList_store_own rfl 24 _ _ rfl _ (rgv reg0 (none, 0, 0)) rfl rfl _ _ (Q2.grown g7 (fun e => by have := Option.some.inj e; omega)) rg_info rfl (rgv_one _ _) ?_; intro w8 B8 g8))
          have hw7 := hw6.trans (below_grown g7 (Nat.le_refl _) hz6)
          have hw8 := hw7.trans (below_grown g8 (by omega) hw7.size)
          apply ret_of
          · exact results_blk_tmp rfl _ _ _ _ _ _ rfl (B8) Try.underlying24 rfl rg_info _ rfl
          · exact ⟨rfl, AppP.no HN.out rfl hw8⟩
        | true =>
          have hN : applyR r x.s = some ⟨x.epoch, x.view, x.ents, x.len⟩ := by rw [HA.out, if_pos ⟨HP.out, hm2⟩]
          have HN := Lib.hid hN
          clear hN hm2
          go_wp2_with ((with_reducible refine at_list ?_); first | refine wpList_load_blk rfl 24 _ rfl _ rfl _ _ _ (QG) Try.underlying24 rfl rg_info ?_ | (refine wpList_store_own rfl 24 _ _ rfl _ (rgv _ s) rfl rfl _ _ (Q0) rg_info rfl (rgv_one _ _) ?_; intro w7 B7 g7) | refine wpList_load_blk rfl 24 _ rfl _ rfl _ _ _ (B7) Try.underlying24 rfl rg_info ?_ | (refine wpList_store_own rfl 24 _ _ rfl _ (rgv _ s) rfl rfl _ _ (Q2.grown g7 (fun e => by have := Option.some.inj e; omega)) rg_info rfl (rgv_one _ _) ?_; intro w8 B8 g8))
          have hw7 := hw6.trans (below_grown g7 (Nat.le_refl _) hz6)
          have hw8 := hw7.trans (below_grown g8 (by omega) hw7.size)
          have hs7 := hs6.apart (Nat.le_refl _) g7 (fun b o h => by have := hwh b o h; omega)
          have hs8 := hs7.apart (Nat.le_refl _) g8 (fun b o h => by have := hwh b o h; omega)
          apply ret_of
          · exact results_blk_tmp rfl _ _ _ _ _ _ rfl (B8) Try.underlying24 rfl rg_info _ rfl
          · exact ⟨rfl, AppP.yes HN.out s rfl hs8 (fun b o h => by have := hwh b o h; omega) hw8⟩
      · have hpb : (r.prom == 0) = false := by rw [beq_eq_false_iff_ne]; exact hp
        have hN : applyR r x.s = none := by rw [HA.out, if_neg (fun h => hp h.1)]
        have HN := Lib.hid hN
        clear hN hp
        go_wp2_with ((with_reducible refine at_list ?_); first | refine wpList_load_blk rfl 24 _ rfl _ rfl _ _ _ (PG) Try.underlying24 rfl rg_info ?_ | (refine wpList_store_own rfl 24 _ _ rfl _ (rgv _ s) rfl rfl _ _ (P0) rg_info rfl (rgv_one _ _) ?_; intro w7 B7 g7) | (refine wpList_store_own rfl 24 _ _ rfl _ (rgv reg0 (none, 0, 0)) rfl rfl _ _ (P2.grown g7 (fun e => by have := Option.some.inj e; omega)) rg_info rfl (rgv_one _ _) ?_; intro w8 B8 g8))
        have hw7 := hw5.trans (below_grown g7 (Nat.le_refl _) hz5)
        have hw8 := hw7.trans (below_grown g8 (by omega) hw7.size)
        apply ret_of
        · exact results_blk_tmp rfl _ _ _ _ _ _ rfl (B8) Try.underlying24 rfl rg_info _ rfl
        · exact ⟨rfl, AppP.no HN.out rfl hw8⟩
  have HN := Lib.hid (apply_else (r := r) (x := x.s) k1 k2 k3 k4)
  have b1 : (x.kind == 1) = false := by rw [beq_eq_false_iff_ne]; exact k1
  have b2 : (x.kind == 2) = false := by rw [beq_eq_false_iff_ne]; exact k2
  have b3 : (x.kind == 3) = false := by rw [beq_eq_false_iff_ne]; exact k3
  have b4 : (x.kind == 4) = false := by rw [beq_eq_false_iff_ne]; exact k4
  go_wp2_with ((with_reducible refine at_list ?_); (refine wpList_store_own rfl 24 _ _ rfl _ (rgv reg0 (none, 0, 0)) rfl rfl _ _ (E2) rg_info rfl (rgv_one _ _) ?_; intro w8 B8 g8))
  have hw8 := hw3.trans (below_grown g8 (by omega) hz3)
  apply ret_of
  · exact results_blk_tmp rfl _ _ _ _ _ _ rfl (B8) Try.underlying24 rfl rg_info _ rfl
  · exact ⟨rfl, AppP.no HN.out rfl hw8⟩

theorem apply_any (r : RegS) (sl : SlcE) (x : RecV) (w : World) (hl : LogAt w w.heap.size sl r.log) (hx : LogAt w w.heap.size x.es x.ents) (hx2 : x.ents.length ≤ 1000) :
    Calls Try.prog 16 #[.agg (rgv r sl).toArray, .agg (rcv x).toArray] w (AppP r x.s w) := by
  cases hm : mayR r with
  | false => exact apply_off r sl x w hm hl
  | true => exact apply_on r sl x w hm hl hx hx2
end Go.Proofs.Ytbicefilfhcgoaa
