/-
  The walk over 'grown'.
  The walk over 'lay'.
  The walk over 'lay', where entries are taken.
  The walk over 'Take'.
  The walk over chapter 19's 'applied'.
-/
import Derived.Test.YtdphfhenjndkkaaReplicasTakeK1
import Derived.Test.YtdphfhenjndkkaaReplicasTakeK2
import Derived.Test.YtdphfhenjndkkaaReplicasTakeK3
import Derived.Test.YtdphfhenjndkkaaReplicasTakeK4
set_option linter.unusedSimpArgs false
set_option linter.unusedVariables false
set_option maxRecDepth 100000
namespace Go.Proofs.Ytdphfhenjndkkaa
open Go Go.RowKit Go.Sq Go.Wd Go.Arch Go.Im

def recZ : RecV := ⟨0, 0, 0, 0, 0, 0, (none, 0, 0), [], (none, 0, 0)⟩
def XV (m : MailS) (f : Int) (l : List Ent) (s : SlcE) : RecV := ⟨2, m.stream, m.epoch, 0, f, 0, s, l, (none, 0, 0)⟩
/-- What 'grown' leaves. -/
def GrP (r : RegS) (m : MailS) (go : Nat) (w : World) (e : Ending) (w' : World) : Prop :=
  Kept w w' (some go) none ∧ match grownS r m with
    | none => ∃ q s, e = .returned (.tuple #[.agg (rgv q s).toArray, .bool false])
    | some (recs, q) => ∃ s v xs, e = .returned (.tuple #[.agg (rgv q s).toArray, .bool true]) ∧ LogAt w' w'.heap.size s q.log ∧ Blk w' go 44 [v] ∧ RRow w.heap.size w' v xs ∧ xs.map RecV.s = recs ∧ ∀ y ∈ xs, y.fs = (none, 0, 0)
def GI (w W : World) (r : RegS) (sl : SlcE) (x : MailV) (go : Nat) : Prop := RpI w W r sl x ∧ Blk W (w.heap.size + 1 + 1) 37 (rgv reg0 (none, 0, 0)) ∧ Blk W go 44 [.slice none 0 0] ∧ LogAt W W.heap.size x.es x.m.ents
theorem GI.keep {w W W' : World} {r : RegS} {sl : SlcE} {x : MailV} {go : Nat} (h : GI w W r sl x go) (hb : Below W.heap.size W W') : GI w W' r sl x go := ⟨h.1.keep hb, h.2.1.keep hb, h.2.2.1.keep hb, h.2.2.2.keep hb⟩
theorem GI.grown {w W W' : World} {r : RegS} {sl : SlcE} {x : MailV} {go g : Nat} (h : GI w W r sl x go) (hl : LogAt w w.heap.size sl r.log) (hx : LogAt w w.heap.size x.es x.m.ents) (hgo : go < w.heap.size) (hg : W.grownBy W' (some g)) (hgz : w.heap.size + 1 + 1 < g) : GI w W' r sl x go := by
  have ne : ∀ m, m ≠ g → some m ≠ some g := fun m h e => h (Option.some.inj e)
  have hb : Below w.heap.size w W' := h.1.1.trans (below_grown hg (by omega) h.1.1.size)
  exact ⟨⟨hb, h.1.2.1.grown hg (ne _ (by omega)), h.1.2.2.1.grown hg (ne _ (by omega)), (hl.below hb).more hb.size⟩, h.2.1.grown hg (ne _ (by omega)), h.2.2.1.grown hg (ne _ (by omega)), (hx.below hb).more hb.size⟩
/-- A record that is being made. -/
def GX (w W : World) (r : RegS) (sl : SlcE) (x : MailV) (go g : Nat) (f : Int) (l : List Ent) (s : SlcE) : Prop :=
  GI w W r sl x go ∧ Blk W g 53 (rcv (XV x.m f l s)) ∧ (LogAt W W.heap.size s l ∧ ∀ b o, s.1 = some ⟨b, o, none⟩ → b < W.heap.size) ∧ w.heap.size + 1 + 1 < g
theorem GX.keep {w W W' : World} {r : RegS} {sl : SlcE} {x : MailV} {go g : Nat} {f : Int} {l : List Ent} {s : SlcE} (h : GX w W r sl x go g f l s) (hb : Below W.heap.size W W') : GX w W' r sl x go g f l s :=
  ⟨h.1.keep hb, h.2.1.keep hb, ⟨h.2.2.1.1.keep hb, fun b o e => Nat.lt_of_lt_of_le (h.2.2.1.2 b o e) hb.size⟩, h.2.2.2⟩

set_option maxHeartbeats 16000000 in
theorem grown_any (r : RegS) (sl : SlcE) (x : MailV) (go : Nat) (w : World) (hm : mayR r = true) (hl : LogAt w w.heap.size sl r.log) (hx : LogAt w w.heap.size x.es x.m.ents) (hx2 : x.m.ents.length ≤ 1000) (ho : Blk w go 44 [.slice none 0 0]) (hb0 : 0 ≤ x.m.base) (hb1 : x.m.base ≤ r.log.length) :
    Calls Try.prog 68 #[.agg (rgv r sl).toArray, .agg (mailv x).toArray, .pointer (some ⟨go, 0, none⟩)] w (GrP r x.m go w) := by
  have m64 : r.log.length ≤ 64 := ((okLog_iff _ _).1 ((mayR_iff r).1 hm).2.1).1
  have hI0 := RpI.new (x := x) hl
  have hI1 : GI w ((((w.alloc (.cells (rgv r sl).toArray 37)).alloc (.cells (mailv x).toArray 43)).alloc (.cells (rgv reg0 (none, 0, 0)).toArray 37)).drew) r sl x go := by
    have hb := ((Below.refl ((w.alloc (.cells (rgv r sl).toArray 37)).alloc (.cells (mailv x).toArray 43)).heap.size ((w.alloc (.cells (rgv r sl).toArray 37)).alloc (.cells (mailv x).toArray 43))).alloc (Nat.le_refl _) (.cells (rgv reg0 (none, 0, 0)).toArray 37)).drew
    exact ⟨hI0.keep hb, (Blk.newAt _ _ _ (by simp)).drew, (ho.keep hI0.1).keep hb, (hx.keep hI0.1).keep hb⟩
  have HI := Lib.hid hI1
  have HK := Lib.hid (And.intro hm (And.intro hx2 (And.intro m64 (And.intro ho.lt (And.intro hb0 hb1)))))
  have HL := Lib.hid (And.intro hl hx)
  have FC : ∀ W, RpI w W r sl x → (W.cell? ⟨w.heap.size + 1, 3, none⟩ = some (.int .i64 x.m.stream) ∧ W.cell? ⟨w.heap.size + 1, 4, none⟩ = some (.int .i64 x.m.epoch) ∧ W.cell? ⟨w.heap.size + 1, 6, none⟩ = some (.int .i64 x.m.base) ∧ W.cell? ⟨w.heap.size + 1, 9, none⟩ = some (.slice x.es.1 x.es.2.1 x.es.2.2)) ∧ W.cell? ⟨w.heap.size, 1, none⟩ = some (.int .i64 r.view) ∧ W.cell? ⟨w.heap.size, 2, none⟩ = some (.slice sl.1 sl.2.1 sl.2.2) := fun W h => ⟨⟨h.2.2.1.cell 3, h.2.2.1.cell 4, h.2.2.1.cell 6, h.2.2.1.cell 9⟩, h.2.1.cell 1, h.2.1.cell 2⟩
  clear hI0 hI1 hl hx hx2 ho hb0 hb1 m64 hm
  go_enter Try.func68, Try.ntmps68
  go_wp2_with fail
  refine wp_region_t (.quiet 0 (.quiet 1 (.quiet 2 (.quiet 3 (.quiet 4 (.quiet 5 (.quiet 6 (.quiet 7 (.two 8 10 (.quiet 9 (.one 10 (.one 11 .done))) (.one 8 (.quiet 9 (.one 11 .done)))))))))))) (fun w' => GI w w' r sl x go) (by kernel_rfl) (by kernel_rfl) (by kernel_rfl) (by kernel_rfl) (HI.out) rfl ?_
  intro KP RP TP hKP hTP hTP'
  simp only [Sch.fill, nth]
  refine abs_seqT (fun W => GI w W r sl x go) HI.out ?_
  clear HI
  intro wd hI
  have HI := Lib.hid hI
  clear hI
  apply merge2 (Inv := fun g s W => GX w W r sl x go g x.m.base x.m.ents s) (K := KP)
  · intro HK2
    have lz := HI.out.2.1.lt
    go_wp2_with (first
      | (apply SeqT.skip; rfl; simp only [Act.put, List.setIfInBounds_toArray, List.set_cons_zero, List.set_cons_succ])
      
      | (apply SeqT.pure; rfl; (intro w2 hw; have hw := hTP _ hw; ((obtain ⟨⟨f3, f4, f6, f9⟩, f1, f2⟩ := FC _ hw.1)); go_simp; with_reducible rfl); simp only [Act.put, List.setIfInBounds_toArray, List.set_cons_zero, List.set_cons_succ]))
    apply SeqT.two
    · apply EffT.go
      · rfl
      intro KE hKE
      go_wp2_with fail
      refine (clone_sl x.m.ents x.es wd HI.out.2.2.2 (by have := HK.out.2.1; omega)).mono ?_
      rintro e w1 ⟨s, rfl, hL, hwh, hb1⟩
      have h1 := HI.out.keep hb1
      refine hKE _ _ (hTP' _ h1) ?_
      clear hKE KE
      go_wp2_with (first
        | (apply SeqT.skip; rfl; simp only [Act.put, List.setIfInBounds_toArray, List.set_cons_zero, List.set_cons_succ])
        
        | (apply SeqT.pure; rfl; (intro w2 hw; have hw := hTP _ hw; ((obtain ⟨⟨f3, f4, f6, f9⟩, f1, f2⟩ := FC _ hw.1)); go_simp; with_reducible rfl); simp only [Act.put, List.setIfInBounds_toArray, List.set_cons_zero, List.set_cons_succ]))
      apply SeqT.one
      apply EffT.go
      · rfl
      intro KE hKE
      go_wp2_with fail
      refine eff_abs hKE (fun W' => Below w1.heap.size w1 W' ∧ Blk W' w1.heap.size 53 (rcv recZ)) ⟨(Below.refl _ _).alloc (Nat.le_refl _) _, Blk.new w1 _ _⟩ (fun W' h => hTP' _ (h1.keep h.1)) ?_
      rintro w2 ⟨hb2, Z2⟩
      have h2 := h1.keep hb2
      have hL2 := hL.keep hb2
      have hs2 := hb2.size
      have hs1 := hb1.size
      clear hKE KE hb2
      have hwh1 : ∀ b o, s.1 = some ⟨b, o, none⟩ → b < w1.heap.size := fun b o e => (hwh b o e).2
      clear hwh hL h1
      generalize w1.heap.size = gz at Z2 hs1 hs2 hwh1 ⊢
      have lz2 := Z2.lt
      go_wp2_with (first
        | (apply SeqT.skip; rfl; simp only [Act.put, List.setIfInBounds_toArray, List.set_cons_zero, List.set_cons_succ])
        
        | (apply SeqT.pure; rfl; (intro w2 hw; have hw := hTP _ hw; ((obtain ⟨⟨f3, f4, f6, f9⟩, f1, f2⟩ := FC _ hw.1)); go_simp; with_reducible rfl); simp only [Act.put, List.setIfInBounds_toArray, List.set_cons_zero, List.set_cons_succ]))
      apply SeqT.one
      apply EffT.go
      · rfl
      intro KE hKE
      refine wp_store_own 53 _ _ rfl _ (rcv (XV x.m x.m.base x.m.ents s)) rfl rfl _ _ Z2 rc_info rfl (rcv_one' _) ?_
      intro w3 B3 g3
      have h3 := h2.grown HL.out.1 HL.out.2 HK.out.2.2.2.1 g3 (by omega)
      refine hKE _ _ (hTP' _ h3) ?_
      clear hKE KE
      go_wp2_with (first
        | (apply SeqT.skip; rfl; simp only [Act.put, List.setIfInBounds_toArray, List.set_cons_zero, List.set_cons_succ])
        
        | (apply SeqT.pure; rfl; (intro w2 hw; have hw := hTP _ hw; (skip); go_simp; with_reducible rfl); simp only [Act.put, List.setIfInBounds_toArray, List.set_cons_zero, List.set_cons_succ]))
      apply SeqT.done
      exact HK2 _ s _ ⟨h3, B3, ⟨hL2.apart (Nat.le_refl _) g3 (fun b o e => by have := hwh1 b o e; omega), fun b o e => by have := hwh1 b o e; have := g3.size; omega⟩, by omega⟩
    · apply EffT.go
      · rfl
      intro KE hKE
      go_wp2_with fail
      refine eff_abs hKE (fun W' => Below wd.heap.size wd W' ∧ Blk W' wd.heap.size 53 (rcv recZ)) ⟨(Below.refl _ _).alloc (Nat.le_refl _) _, Blk.new wd _ _⟩ (fun W' h => hTP' _ (HI.out.keep h.1)) ?_
      rintro w1 ⟨hb1, Z1⟩
      have h1 := HI.out.keep hb1
      clear hKE KE
      have hgz : wd.heap.size = wd.heap.size := rfl
      have hs1 := hb1.size
      generalize wd.heap.size = gz at Z1 hgz lz hs1 ⊢
      go_wp2_with (first
        | (apply SeqT.skip; rfl; simp only [Act.put, List.setIfInBounds_toArray, List.set_cons_zero, List.set_cons_succ])
        
        | (apply SeqT.pure; rfl; (intro w2 hw; have hw := hTP _ hw; ((obtain ⟨⟨f3, f4, f6, f9⟩, f1, f2⟩ := FC _ hw.1)); go_simp; with_reducible rfl); simp only [Act.put, List.setIfInBounds_toArray, List.set_cons_zero, List.set_cons_succ]))
      apply SeqT.one
      apply EffT.go
      · rfl
      intro KE hKE
      go_wp2_with fail
      refine (clone_sl x.m.ents x.es w1 h1.2.2.2 (by have := HK.out.2.1; omega)).mono ?_
      rintro e w2 ⟨s, rfl, hL, hwh, hb2⟩
      have h2 := h1.keep hb2
      have Z2 := Z1.keep hb2
      have lz1 := Z1.lt
      refine hKE _ _ (hTP' _ h2) ?_
      clear hKE KE
      go_wp2_with (first
        | (apply SeqT.skip; rfl; simp only [Act.put, List.setIfInBounds_toArray, List.set_cons_zero, List.set_cons_succ])
        
        | (apply SeqT.pure; rfl; (intro w2 hw; have hw := hTP _ hw; ((obtain ⟨⟨f3, f4, f6, f9⟩, f1, f2⟩ := FC _ hw.1)); go_simp; with_reducible rfl); simp only [Act.put, List.setIfInBounds_toArray, List.set_cons_zero, List.set_cons_succ]))
      apply SeqT.one
      apply EffT.go
      · rfl
      intro KE hKE
      refine wp_store_own 53 _ _ rfl _ (rcv (XV x.m x.m.base x.m.ents s)) rfl rfl _ _ Z2 rc_info rfl (rcv_one' _) ?_
      intro w3 B3 g3
      have h3 := h2.grown HL.out.1 HL.out.2 HK.out.2.2.2.1 g3 (by omega)
      refine hKE _ _ (hTP' _ h3) ?_
      clear hKE KE
      go_wp2_with (first
        | (apply SeqT.skip; rfl; simp only [Act.put, List.setIfInBounds_toArray, List.set_cons_zero, List.set_cons_succ])
        
        | (apply SeqT.pure; rfl; (intro w2 hw; have hw := hTP _ hw; (skip); go_simp; with_reducible rfl); simp only [Act.put, List.setIfInBounds_toArray, List.set_cons_zero, List.set_cons_succ]))
      apply SeqT.done
      exact HK2 _ s _ ⟨h3, B3, ⟨hL.apart (Nat.le_refl _) g3 (fun b o e => by have := hwh b o e; omega), fun b o e => Nat.lt_of_lt_of_le (hwh b o e).2 g3.size⟩, by omega⟩
  · intro g s w9 hG
    refine hKP _ _ (hTP' _ hG.1) ?_
    try clear hKP
    have HG := Lib.hid hG
    obtain ⟨⟨f3, f4, f6, f9⟩, f1, f2⟩ := FC _ hG.1.1
    clear hG HI f3 f6 f9 f2
    by_cases hv : x.m.epoch = r.view
    case' pos =>
      have hve : (x.m.epoch == r.view) = true := by simpa using hv
      have HV := Lib.hid hv
      clear hv
      go_wp2_with fail
      clear f1 f4
      have hG2 := HG.out.keep (Below.refl _ _).drew
      have HG2 := Lib.hid hG2
      clear hG2 HG
      obtain ⟨bn, hbn⟩ : ∃ bn : Nat, x.m.base = bn := Int.eq_ofNat_of_zero_le HK.out.2.2.2.2.1
      have hsn : sl.2.1 = r.log.length := HL.out.1.1
      have hbn1 : bn ≤ sl.2.1 := by have := HK.out.2.2.2.2.2; omega
      have i0 : (0 : Int) ≤ (bn : Int) := by omega
      have i1 : (bn : Int) ≤ (sl.2.1 : Int) := by omega
      have i2 : (bn : Int) ≤ (sl.2.2 : Int) := by have := HL.out.1.2.1; omega
      have i3 : (sl.2.2 : Int) ≤ 9223372036854775807 := by have := HL.out.1.2.2.1; omega
      have i4 : (sl.2.1 : Int) ≤ (sl.2.2 : Int) := by have := HL.out.1.2.1; omega
      have FD : ∀ W, RpI w W r sl x → (W.cell? ⟨w.heap.size + 1, 6, none⟩ = some (.int .i64 (bn : Int)) ∧ W.cell? ⟨w.heap.size + 1, 9, none⟩ = some (.slice x.es.1 x.es.2.1 x.es.2.2)) ∧ W.cell? ⟨w.heap.size, 2, none⟩ = some (.slice sl.1 sl.2.1 sl.2.2) := fun W h => ⟨⟨by rw [← hbn]; exact (FC W h).1.2.2.1, (FC W h).1.2.2.2⟩, (FC W h).2.2⟩
      have HN := Lib.hid (And.intro hbn hsn)
      clear hbn hsn hbn1
      refine wp_region_p ([(0, true), (1, true), (2, true), (3, true), (4, true), (5, true), (6, true), (7, false), (8, false), (9, true)]) (fun w' => GX w w' r sl x go g x.m.base x.m.ents s) (by kernel_rfl) rfl (by kernel_rfl) (by kernel_rfl) (HG2.out) rfl ?_
      intro KP RP TP hKP hTP hTP'
      simp only [List.append_eq, List.cons_append, List.nil_append, pick, nth]
      generalize w9.drew = wq at *
      go_wp2_with (first
        | (apply SeqP.skip; rfl; simp only [Act.put, List.setIfInBounds_toArray, List.set_cons_zero, List.set_cons_succ])
        | (apply SeqP.call; rfl; rfl; (intro w2 hw; have hw := hTP _ hw; ((obtain ⟨⟨q6, q9⟩, q2⟩ := FD _ hw.1.1)); go_simp; exact ⟨rfl, rfl⟩); (intro w2 hw; have hw := hTP _ hw; ((obtain ⟨⟨q6, q9⟩, q2⟩ := FD _ hw.1.1)); (first | fail)); simp only [Act.put, List.setIfInBounds_toArray, List.set_cons_zero, List.set_cons_succ])
        | (apply SeqP.pure; rfl; (intro w2 hw; have hw := hTP _ hw; ((obtain ⟨⟨q6, q9⟩, q2⟩ := FD _ hw.1.1)); go_simp; with_reducible rfl); simp only [Act.put, List.setIfInBounds_toArray, List.set_cons_zero, List.set_cons_succ])
        | (apply SeqP.split; rfl; rfl; all_goals (intro hc; simp only [hc]; try simp only [beq_iff_eq, decide_eq_true_eq, beq_eq_false_iff_ne, decide_eq_false_iff_not, bne_iff_ne, ne_eq, Bool.not_eq_true', Bool.not_eq_false', Int.not_le, Int.not_lt, bne_eq_false_iff_eq, Bool.or_eq_true, Bool.and_eq_true, Bool.or_eq_false_iff] at hc)))
      apply SeqP.eff
      · rfl
      intro KE hKE
      go_wp2_with fail
      have hB := Blk.new wq 35 [.slice sl.1 bn sl.2.2, .slice x.es.1 x.es.2.1 x.es.2.2]
      have ha := (Below.refl wq.heap.size wq).alloc (Nat.le_refl _) (.cells ([.slice sl.1 bn sl.2.2, .slice x.es.1 x.es.2.1 x.es.2.2] : List Value).toArray 35)
      have h10 := HG2.out.keep ha
      refine hKE _ _ (hTP' _ h10) ?_
      clear hKE KE
      go_wp2_with (first
        | (apply SeqP.skip; rfl; simp only [Act.put, List.setIfInBounds_toArray, List.set_cons_zero, List.set_cons_succ])
        | (apply SeqP.call; rfl; rfl; (intro w2 hw; have hw := hTP _ hw; (skip); go_simp; exact ⟨rfl, rfl⟩); (intro w2 hw; have hw := hTP _ hw; (skip); (first | fail)); simp only [Act.put, List.setIfInBounds_toArray, List.set_cons_zero, List.set_cons_succ])
        | (apply SeqP.pure; rfl; (intro w2 hw; have hw := hTP _ hw; (skip); go_simp; with_reducible rfl); simp only [Act.put, List.setIfInBounds_toArray, List.set_cons_zero, List.set_cons_succ])
        | (apply SeqP.split; rfl; rfl; all_goals (intro hc; simp only [hc]; try simp only [beq_iff_eq, decide_eq_true_eq, beq_eq_false_iff_ne, decide_eq_false_iff_not, bne_iff_ne, ne_eq, Bool.not_eq_true', Bool.not_eq_false', Int.not_le, Int.not_lt, bne_eq_false_iff_eq, Bool.or_eq_true, Bool.and_eq_true, Bool.or_eq_false_iff] at hc)))
      apply SeqP.eff
      · rfl
      intro KE hKE
      go_wp2_with fail
      refine (concatE_any wq.heap.size (r.log.take bn) x.m.ents (sl.1, bn, sl.2.2) x.es _ hB (LogAt.front (A := sl.1) (n := sl.2.1) (cap := sl.2.2) h10.1.1.2.2.2 (by omega)) h10.1.2.2.2 (by rw [List.length_take]; have := HK.out.2.1; have := HK.out.2.2.1; omega)).mono ?_
      have hJe : joinM r x.m = r.log.take bn ++ x.m.ents := by unfold joinM; rw [HN.out.1]; rfl
      rw [← hJe]
      have hJl : (joinM r x.m).length ≤ bn + x.m.ents.length := by rw [hJe, List.length_append, List.length_take]; omega
      obtain ⟨J, hJ⟩ : ∃ J, joinM r x.m = J := ⟨_, rfl⟩
      rw [hJ] at hJl ⊢
      have HJ := Lib.hid (And.intro hJ hJl)
      clear hJe hJ hJl
      rintro e w11 ⟨v, rfl, hR, hb11⟩
      have h11 := h10.keep hb11
      have hgl := h10.2.1.lt
      obtain ⟨AJ, cJ, rfl, hLJ, hwJ⟩ := hR.form2
      have hwJ2 : 0 < J.length → ∃ q, AJ = some ⟨q, 0, none⟩ ∧ g < q ∧ q < w11.heap.size := fun h => by
        obtain ⟨q, e, h1, h2⟩ := hwJ h
        exact ⟨q, e, by omega, h2⟩
      have H11 := Lib.hid (And.intro h11 (And.intro hLJ hwJ2))
      refine hKE _ _ (hTP' _ h11) ?_
      clear hKE KE hR hb11 h10 h11 hB ha hLJ hwJ hwJ2 HG2 hgl
      go_wp2_with (first
        | (apply SeqP.skip; rfl; simp only [Act.put, List.setIfInBounds_toArray, List.set_cons_zero, List.set_cons_succ])
        | (apply SeqP.call; rfl; rfl; (intro w2 hw; have hw := hTP _ hw; (skip); go_simp; exact ⟨rfl, rfl⟩); (intro w2 hw; have hw := hTP _ hw; (skip); (first | fail)); simp only [Act.put, List.setIfInBounds_toArray, List.set_cons_zero, List.set_cons_succ])
        | (apply SeqP.pure; rfl; (intro w2 hw; have hw := hTP _ hw; (skip); go_simp; with_reducible rfl); simp only [Act.put, List.setIfInBounds_toArray, List.set_cons_zero, List.set_cons_succ])
        | (apply SeqP.split; rfl; rfl; all_goals (intro hc; simp only [hc]; try simp only [beq_iff_eq, decide_eq_true_eq, beq_eq_false_iff_ne, decide_eq_false_iff_not, bne_iff_ne, ne_eq, Bool.not_eq_true', Bool.not_eq_false', Int.not_le, Int.not_lt, bne_eq_false_iff_eq, Bool.or_eq_true, Bool.and_eq_true, Bool.or_eq_false_iff] at hc)))
      apply SeqP.nil
      refine hKP _ _ (hTP' _ (H11.out.1)) ?_
      clear hKP hTP hTP'
      obtain ⟨⟨q6, q9⟩, q2⟩ := FD _ H11.out.1.1.1
      clear q6 q9
      go_wp2_with fail
      refine (prefix_sl J r.log (AJ, J.length, cJ) sl w11 H11.out.2.1 H11.out.1.1.1.2.2.2).mono ?_
      rintro e w12 ⟨rfl, hb12⟩
      have h12 := H11.out.1.keep hb12
      have H12 := Lib.hid (And.intro h12 (And.intro (H11.out.2.1.keep hb12) (fun h => by
        obtain ⟨q, e, h1, h2⟩ := H11.out.2.2 h
        exact (⟨q, e, h1, Nat.lt_of_lt_of_le h2 hb12.size⟩ : ∃ q, AJ = some ⟨q, 0, none⟩ ∧ g < q ∧ q < w12.heap.size))))
      clear hb12 h12 H11 q2
      by_cases hp1 : J <+: r.log
      case pos =>
        rw [decide_eq_true hp1]
        have hS : grownS r x.m = some ([], r) := by unfold grownS; rw [if_pos HV.out, HJ.out.1, if_pos hp1]
        have HS := Lib.hid hS
        clear hp1 hS
        go_wp2_with ((with_reducible refine at_list ?_); first | refine wpList_load_blk rfl 37 _ rfl _ rfl _ _ _ (H12.out.1.1.1.2.1) Try.underlying37 rfl rg_info ?_ | (refine wpList_store_own rfl 37 _ _ rfl _ (rgv r sl) rfl rfl _ _ (H12.out.1.1.2.1) rg_info rfl (rgv_one _ _) ?_; intro w13 B13 g13))
        have hw13 : Below w.heap.size w w13 := H12.out.1.1.1.1.trans (below_grown g13 (by omega) H12.out.1.1.1.1.size)
        have ho13 := H12.out.1.1.2.2.1.grown g13 (fun e => by have := HK.out.2.2.2.1; cases e; omega)
        apply ret_of
        · exact results_blk_tmp rfl _ _ _ _ _ _ rfl (B13) Try.underlying37 rfl rg_info _ rfl
        · refine ⟨rfl, Kept.ofBelow hw13 _ _, ?_⟩
          rw [HS.out]
          exact ⟨sl, _, [], rfl, (HL.out.1.below hw13).more hw13.size, ho13, RRow.nil _ _, rfl, by simp⟩
      case' neg =>
        rw [decide_eq_false hp1]
        have HP1 := Lib.hid hp1
        clear hp1
        obtain ⟨-, q2⟩ := FD _ H12.out.1.1.1
        go_wp2_with fail
        refine (prefix_sl r.log J sl (AJ, J.length, cJ) w12 H12.out.1.1.1.2.2.2 H12.out.2.1).mono ?_
        rintro e w13 ⟨rfl, hb13⟩
        have h13 := H12.out.1.keep hb13
        have H13 := Lib.hid (And.intro h13 (And.intro (H12.out.2.1.keep hb13) (fun h => by
          obtain ⟨q, e, h1, h2⟩ := H12.out.2.2 h
          exact (⟨q, e, h1, Nat.lt_of_lt_of_le h2 hb13.size⟩ : ∃ q, AJ = some ⟨q, 0, none⟩ ∧ g < q ∧ q < w13.heap.size))))
        clear hb13 h13 H12 q2
        by_cases hp2 : r.log <+: J
        case neg =>
          rw [decide_eq_false hp2]
          have hS : grownS r x.m = none := by
            unfold grownS
            rw [if_pos HV.out, HJ.out.1, if_neg HP1.out, if_neg hp2]
          have HS := Lib.hid hS
          clear hp2 hS
          go_wp2_with ((with_reducible refine at_list ?_); first | refine wpList_load_blk rfl 37 _ rfl _ rfl _ _ _ (H13.out.1.1.1.2.1) Try.underlying37 rfl rg_info ?_ | (refine wpList_store_own rfl 37 _ _ rfl _ (rgv r sl) rfl rfl _ _ (H13.out.1.1.2.1) rg_info rfl (rgv_one _ _) ?_; intro w14 B14 g14))
          have hw14 : Below w.heap.size w w14 := H13.out.1.1.1.1.trans (below_grown g14 (by omega) H13.out.1.1.1.1.size)
          apply ret_of
          · exact results_blk_tmp rfl _ _ _ _ _ _ rfl (B14) Try.underlying37 rfl rg_info _ rfl
          · refine ⟨rfl, Kept.ofBelow hw14 _ _, ?_⟩
            rw [HS.out]
            exact ⟨r, sl, rfl⟩
        case' pos =>
          rw [decide_eq_true hp2]
          have hlt : sl.2.1 < J.length := by
            have h1 := hp2.length_le
            have h2 := HN.out.2
            have h3 : J.length ≠ r.log.length := fun e => HP1.out (by
              have := hp2.eq_of_length e.symm
              rw [this]
              exact List.prefix_refl _)
            omega
          have hS : grownS r x.m = (applyR r (XV x.m sl.2.1 (J.drop sl.2.1) (AJ, 0, 0)).s).map fun q => ([(XV x.m sl.2.1 (J.drop sl.2.1) (AJ, 0, 0)).s], q) := by
            unfold grownS
            rw [if_pos HV.out, HJ.out.1, if_neg HP1.out, if_pos hp2, ← HN.out.2]
            rfl
          have HS := Lib.hid (And.intro hS (show (J.drop sl.2.1).length ≤ 1000 from by rw [List.length_drop]; have := HJ.out.2; have := HK.out.2.1; omega))
          clear hp2 hS
          obtain ⟨q, rfl, hq1, hq2⟩ := H13.out.2.2 (by omega)
          have j0 : ¬ cJ = sl.2.1 := by have := H13.out.2.1.2.1; dsimp only at this; omega
          have j1 : (sl.2.1 : Int) ≤ (J.length : Int) := by omega
          have j2 : (J.length : Int) ≤ (cJ : Int) := by have := H13.out.2.1.2.1; dsimp only at this; omega
          have j3 : (cJ : Int) ≤ 9223372036854775807 := by have := H13.out.2.1.2.2.1; dsimp only at this; omega
          have j4 : (sl.2.1 : Int) ≤ (cJ : Int) := by omega
          have j5 : (0 : Int) ≤ (sl.2.1 : Int) := by omega
          have HD := Lib.hid (And.intro (H13.out.1.keep (Below.refl _ _).drew) (And.intro (H13.out.2.1.keep (Below.refl _ _).drew) (And.intro hq1 (show q < w13.drew.heap.size from hq2))))
          clear H13
          go_wp2_with fail
          refine wp_region_p ([(0, true), (1, true), (2, true), (3, true), (4, true), (5, true), (6, true), (7, true), (8, true), (9, false), (10, true), (11, false)]) (fun w' => GI w w' r sl x go) (by kernel_rfl) rfl (by kernel_rfl) (by kernel_rfl) (HD.out.1.1) rfl ?_
          intro KP RP TP hKP hTP hTP'
          simp only [List.append_eq, List.cons_append, List.nil_append, pick, nth]
          generalize w13.drew = wq2 at *
          have c4 : wq2.cell? ⟨g, 4, none⟩ = some (.int .i64 x.m.base) := HD.out.1.2.1.cell 4
          have z4 : wq2.frozen? ⟨g, 4, none⟩ = false := HD.out.1.2.1.frozen 4
          have c6 : wq2.cell? ⟨g, 6, none⟩ = some (.slice s.1 s.2.1 s.2.2) := HD.out.1.2.1.cell 6
          have z6 : wq2.frozen? ⟨g, 6, none⟩ = false := HD.out.1.2.1.frozen 6
          have hgl := HD.out.1.2.2.2
          go_wp2_with (first
            | (apply SeqP.skip; rfl; simp only [Act.put, List.setIfInBounds_toArray, List.set_cons_zero, List.set_cons_succ])
            | (apply SeqP.call; rfl; rfl; (intro w2 hw; have hw := hTP _ hw; ((obtain ⟨-, q2⟩ := FD _ hw.1)); go_simp; exact ⟨rfl, rfl⟩); (intro w2 hw; have hw := hTP _ hw; ((obtain ⟨-, q2⟩ := FD _ hw.1)); (first | fail)); simp only [Act.put, List.setIfInBounds_toArray, List.set_cons_zero, List.set_cons_succ])
            | (apply SeqP.pure; rfl; (intro w2 hw; have hw := hTP _ hw; ((obtain ⟨-, q2⟩ := FD _ hw.1)); go_simp; with_reducible rfl); simp only [Act.put, List.setIfInBounds_toArray, List.set_cons_zero, List.set_cons_succ])
            | (apply SeqP.split; rfl; rfl; all_goals (intro hc; simp only [hc]; try simp only [beq_iff_eq, decide_eq_true_eq, beq_eq_false_iff_ne, decide_eq_false_iff_not, bne_iff_ne, ne_eq, Bool.not_eq_true', Bool.not_eq_false', Int.not_le, Int.not_lt, bne_eq_false_iff_eq, Bool.or_eq_true, Bool.and_eq_true, Bool.or_eq_false_iff] at hc)))
          apply SeqP.eff
          · rfl
          intro KE hKE
          go_wp2_with fail
          have G4 := only_setCell (World.grownBy.refl wq2 (some g)) (p := ⟨g, 4, none⟩) (.inl rfl) (.int .i64 (sl.2.1 : Int))
          have h14 := HD.out.1.1.grown HL.out.1 HL.out.2 HK.out.2.2.2.1 G4 hgl
          have B14 := HD.out.1.2.1.set 4 (.int .i64 (sl.2.1 : Int))
          refine hKE _ _ (hTP' _ h14) ?_
          clear hKE KE
          go_wp2_with (first
            | (apply SeqP.skip; rfl; simp only [Act.put, List.setIfInBounds_toArray, List.set_cons_zero, List.set_cons_succ])
            | (apply SeqP.call; rfl; rfl; (intro w2 hw; have hw := hTP _ hw; (skip); go_simp; exact ⟨rfl, rfl⟩); (intro w2 hw; have hw := hTP _ hw; (skip); (first | fail)); simp only [Act.put, List.setIfInBounds_toArray, List.set_cons_zero, List.set_cons_succ])
            | (apply SeqP.pure; rfl; (intro w2 hw; have hw := hTP _ hw; (skip); go_simp; with_reducible rfl); simp only [Act.put, List.setIfInBounds_toArray, List.set_cons_zero, List.set_cons_succ])
            | (apply SeqP.split; rfl; rfl; all_goals (intro hc; simp only [hc]; try simp only [beq_iff_eq, decide_eq_true_eq, beq_eq_false_iff_ne, decide_eq_false_iff_not, bne_iff_ne, ne_eq, Bool.not_eq_true', Bool.not_eq_false', Int.not_le, Int.not_lt, bne_eq_false_iff_eq, Bool.or_eq_true, Bool.and_eq_true, Bool.or_eq_false_iff] at hc)))
          apply SeqP.eff
          · rfl
          intro KE hKE
          go_wp2_with fail
          have hL2 : LogAt wq2 wq2.heap.size (some ⟨q, sl.2.1 * 6, none⟩, J.length - sl.2.1, cJ - sl.2.1) (J.drop sl.2.1) := by
            have h := LogAt.back HD.out.2.1 (c := sl.2.1) (by omega)
            rw [if_neg j0, Option.map_some, add_off, Nat.zero_add] at h
            exact h
          have G6 := only_setCell (World.grownBy.refl (wq2.setCell ⟨g, 4, none⟩ (.int .i64 (sl.2.1 : Int))) (some g)) (p := ⟨g, 6, none⟩) (.inl rfl) (.slice (some ⟨q, sl.2.1 * 6, none⟩) (J.length - sl.2.1) (cJ - sl.2.1))
          have h15 := h14.grown HL.out.1 HL.out.2 HK.out.2.2.2.1 G6 hgl
          have hqg : ∀ b o, (some (⟨q, sl.2.1 * 6, none⟩ : Addr)) = some ⟨b, o, none⟩ → b ≠ g := fun b o e => by have := HD.out.2.2.1; cases e; omega
          have hL3 := (hL2.apart (Nat.le_refl _) G4 hqg).apart (Nat.le_refl _) G6 hqg
          have B15 := B14.set 6 (.slice (some ⟨q, sl.2.1 * 6, none⟩) (J.length - sl.2.1) (cJ - sl.2.1))
          have hT : ∃ f l s2, GX w ((wq2.setCell ⟨g, 4, none⟩ (.int .i64 (sl.2.1 : Int))).setCell ⟨g, 6, none⟩ (.slice (some ⟨q, sl.2.1 * 6, none⟩) (J.length - sl.2.1) (cJ - sl.2.1))) r sl x go g f l s2 ∧ (grownS r x.m = (applyR r (XV x.m f l s2).s).map fun q => ([(XV x.m f l s2).s], q)) ∧ l.length ≤ 1000 :=
            ⟨sl.2.1, J.drop sl.2.1, (some ⟨q, sl.2.1 * 6, none⟩, J.length - sl.2.1, cJ - sl.2.1), ⟨h15, B15, ⟨hL3, fun b o e => by have := HD.out.2.2.2; have := G4.size; have := G6.size; cases e; omega⟩, hgl⟩, HS.out.1, HS.out.2⟩
          have HT := Lib.hid hT
          refine hKE _ _ (hTP' _ h15) ?_
          clear hKE KE
          go_wp2_with (first
            | (apply SeqP.skip; rfl; simp only [Act.put, List.setIfInBounds_toArray, List.set_cons_zero, List.set_cons_succ])
            | (apply SeqP.call; rfl; rfl; (intro w2 hw; have hw := hTP _ hw; (skip); go_simp; exact ⟨rfl, rfl⟩); (intro w2 hw; have hw := hTP _ hw; (skip); (first | fail)); simp only [Act.put, List.setIfInBounds_toArray, List.set_cons_zero, List.set_cons_succ])
            | (apply SeqP.pure; rfl; (intro w2 hw; have hw := hTP _ hw; (skip); go_simp; with_reducible rfl); simp only [Act.put, List.setIfInBounds_toArray, List.set_cons_zero, List.set_cons_succ])
            | (apply SeqP.split; rfl; rfl; all_goals (intro hc; simp only [hc]; try simp only [beq_iff_eq, decide_eq_true_eq, beq_eq_false_iff_ne, decide_eq_false_iff_not, bne_iff_ne, ne_eq, Bool.not_eq_true', Bool.not_eq_false', Int.not_le, Int.not_lt, bne_eq_false_iff_eq, Bool.or_eq_true, Bool.and_eq_true, Bool.or_eq_false_iff] at hc)))
          apply SeqP.nil
          refine hKP _ _ (hTP' _ (h15)) ?_
          clear hKP hTP hTP'
          clear hT hL2 hL3 G4 G6 h14 h15 B14 B15 hqg HS HD c4 z4 c6 z6 j0 j1 j2 j3 j4 j5 i0 i1 i2 i3 i4 FD HN HP1 hq1 hq2 hlt hve
          generalize ((wq2.setCell ⟨g, 4, none⟩ (.int .i64 (sl.2.1 : Int))).setCell ⟨g, 6, none⟩ (.slice (some ⟨q, sl.2.1 * 6, none⟩) (J.length - sl.2.1) (cJ - sl.2.1))) = wt at HT ⊢
    case' neg =>
      have hve : (x.m.epoch == r.view) = false := by simpa using hv
      have hT : ∃ f l s2, GX w w9 r sl x go g f l s2 ∧ (grownS r x.m = (applyR r (XV x.m f l s2).s).map fun q => ([(XV x.m f l s2).s], q)) ∧ l.length ≤ 1000 :=
        ⟨x.m.base, x.m.ents, s, HG.out, by unfold grownS; rw [if_neg hv]; rfl, HK.out.2.1⟩
      have HT := Lib.hid hT
      clear hv hT HG
      go_wp2_with ((with_reducible refine at_list ?_); (with_reducible refine cut_at 60 rfl ?_))
      refine Cut.go ?_
      clear hve f1 f4
      obtain ⟨wt, rfl⟩ : ∃ wt, wt = w9 := ⟨_, rfl⟩
    all_goals
      obtain ⟨f, l, s2, hT, hS, hl2⟩ := HT.out
      have HT2 := Lib.hid (And.intro hT hS)
      have hap := apply_any r sl (XV x.m f l s2) wt hT.1.1.2.2.2 hT.2.2.1.1 hl2
      unfold AppP at hap
      obtain ⟨qa, ok, hqa⟩ : ∃ qa ok, regR (applyR r (XV x.m f l s2).s) = (qa, ok) := ⟨_, _, rfl⟩
      rw [hqa] at hap
      dsimp only at hap
      have HAP := Lib.hid (And.intro hap hqa)
      clear hap hqa hT hS HT hl2
      cases ok with
      | false =>
        have hN : grownS r x.m = none := by
          have h := HAP.out.2
          rw [HT2.out.2]
          cases hA : applyR r (XV x.m f l s2).s with
          | none => rfl
          | some a => rw [hA] at h; cases h
        have HN2 := Lib.hid hN
        clear hN
        go_wp2_with ((with_reducible refine at_list ?_); first | refine wpList_load_blk rfl 37 _ rfl _ rfl _ _ _ (HT2.out.1.1.1.2.1) Try.underlying37 rfl rg_info ?_ | refine wpList_load_blk rfl 53 _ rfl _ rfl _ _ _ (HT2.out.1.2.1) Try.underlying53 rfl rc_info ?_)
        refine HAP.out.1.mono ?_
        rintro e wa ⟨sa, rfl, ⟨hLa, hwa⟩, hba⟩
        have h1 := HT2.out.1.keep hba
        have HA := Lib.hid h1
        clear hba hLa hwa h1 HT2 HAP
        go_wp2_with ((with_reducible refine at_list ?_); first | (with_reducible refine cut_at 74 rfl ?_) | (refine wpList_store_own rfl 37 _ _ rfl _ (rgv qa sa) rfl rfl _ _ (Blk.new wa 37 (rgv reg0 (none, 0, 0))) rg_info rfl (rgv_one _ _) ?_; intro wb Bb gb))
        refine Cut.go ?_
        have hwb := below_new gb
        have h2 := HA.out.keep hwb
        have HB := Lib.hid (And.intro h2 Bb)
        clear hwb h2 Bb gb HA
        go_wp2_with ((with_reducible refine at_list ?_); first | refine wpList_load_blk rfl 37 _ rfl _ rfl _ _ _ (HB.out.2) Try.underlying37 rfl rg_info ?_ | (refine wpList_store_own rfl 37 _ _ rfl _ (rgv qa sa) rfl rfl _ _ (HB.out.1.1.2.1) rg_info rfl (rgv_one _ _) ?_; intro wc Bc gc))
        have hwc : Below w.heap.size w wc := HB.out.1.1.1.1.trans (below_grown gc (by omega) HB.out.1.1.1.1.size)
        apply ret_of
        · exact results_blk_tmp rfl _ _ _ _ _ _ rfl (Bc) Try.underlying37 rfl rg_info _ rfl
        · refine ⟨rfl, Kept.ofBelow hwc _ _, ?_⟩
          rw [HN2.out]
          exact ⟨qa, sa, rfl⟩
      | true =>
        have hN : grownS r x.m = some ([(XV x.m f l s2).s], qa) := by
          have h := HAP.out.2
          rw [HT2.out.2]
          cases hA : applyR r (XV x.m f l s2).s with
          | none => rw [hA] at h; cases h
          | some a => rw [hA] at h; cases h; rfl
        have HN2 := Lib.hid hN
        clear hN
        go_wp2_with ((with_reducible refine at_list ?_); first | refine wpList_load_blk rfl 37 _ rfl _ rfl _ _ _ (HT2.out.1.1.1.2.1) Try.underlying37 rfl rg_info ?_ | refine wpList_load_blk rfl 53 _ rfl _ rfl _ _ _ (HT2.out.1.2.1) Try.underlying53 rfl rc_info ?_)
        refine HAP.out.1.mono ?_
        rintro e wa ⟨sa, rfl, ⟨hLa, hwa⟩, hba⟩
        have h1 := HT2.out.1.keep hba
        have HA := Lib.hid (And.intro h1 hLa)
        clear hba hLa hwa h1 HT2 HAP
        go_wp2_with ((with_reducible refine at_list ?_); first | (refine wpList_store_own rfl 37 _ _ rfl _ (rgv qa sa) rfl rfl _ _ (Blk.new wa 37 (rgv reg0 (none, 0, 0))) rg_info rfl (rgv_one _ _) ?_; intro wb Bb gb))
        have hwb := below_new gb
        have h2 := HA.out.1.keep hwb
        have hl2 := HA.out.2.keep hwb
        have hgw : w.heap.size ≤ wa.heap.size := HA.out.1.1.1.1.size
        have HB := Lib.hid (And.intro (And.intro (h2.keep (Below.refl _ _).drew) hgw) (And.intro Bb.drew (hl2.keep (Below.refl _ _).drew)))
        clear hwb h2 Bb gb hl2 hgw HA
        generalize wa.heap.size = ga at HB ⊢
        obtain ⟨xv, hxv⟩ : ∃ xv, XV x.m f l s2 = xv := ⟨_, rfl⟩
        go_wp2_with fail
        refine wp_region_t (.quiet 0 (.quiet 1 (.quiet 2 (.quiet 4 (.two 3 5 (.one 5 (.one 6 (.quiet 7 (.one 8 .done)))) (.one 3 (.one 6 (.quiet 7 (.one 8 .done))))))))) (fun w' => Blk w' g 53 (rcv (XV x.m f l s2))) (by kernel_rfl) (by kernel_rfl) (by kernel_rfl) (by kernel_rfl) (HB.out.1.1.2.1) rfl ?_
        intro KP RP TP hKP hTP hTP'
        simp only [Sch.fill, nth]
        generalize wb.drew = wz at *
        have HXV := Lib.hid hxv
        have hrow := RRow.snoc (RRow.nil wz w.heap.size) xv (by rw [← hxv]; exact ⟨HB.out.1.1.2.2.1.1, fun b o e => ⟨by simp [Value.ownBlock], HB.out.1.1.2.2.1.2 b o e⟩⟩) (by simp) HB.out.1.1.1.1.1.size
        obtain ⟨v2, w2, hrun, hR2, hg2⟩ := hrow
        obtain ⟨Ax, cx, hvx, -, -, -⟩ := hR2.recs
        have hv2 : v2 = .slice Ax 1 cx := hvx
        clear hvx
        subst hv2
        have hb2 : Below wz.heap.size wz w2 := ⟨hg2.os, hg2.tape, hg2.output, hg2.size, fun k hk => hg2.block k hk (by simp [Value.ownBlock])⟩
        have H2 := Lib.hid (And.intro (And.intro (HB.out.1.1.keep hb2) HB.out.1.2) (And.intro (HB.out.2.1.keep hb2) (And.intro (HB.out.2.2.keep hb2) hR2)))
        clear hR2 hg2 hb2
        rw [hxv] at hTP hTP'
        have HBX : Hid (Blk wz g 53 (rcv xv)) := Lib.hid (by rw [← hxv]; exact HB.out.1.1.2.1)
        clear hxv
        go_wp2_with (first
          | (apply SeqT.skip; rfl; simp only [Act.put, List.setIfInBounds_toArray, List.set_cons_zero, List.set_cons_succ])
          | (apply SeqT.pure; rfl; (intro w2 hw; have hw := hTP _ hw; exact exec_load_blk 53 _ rfl _ rfl _ _ (hw) _ Try.underlying53 rfl rc_info); simp only [Act.put, List.setIfInBounds_toArray, List.set_cons_zero, List.set_cons_succ])
          | (apply SeqT.pure; rfl; (intro w2 hw; have hw := hTP _ hw; (skip); go_simp; with_reducible rfl); simp only [Act.put, List.setIfInBounds_toArray, List.set_cons_zero, List.set_cons_succ]))
        unfold rcv at hrun ⊢
        have hX2 : Blk w2 g 53 (rcv xv) := by rw [← HXV.out]; exact H2.out.1.1.2.1
        have HX2 := Lib.hid hX2
        have c0 : wz.cell? ⟨go, 0, none⟩ = some (.slice none 0 0) := HB.out.1.1.1.2.2.1.cell 0
        have lgo : go < wz.heap.size := HB.out.1.1.1.2.2.1.lt
        have lgo2 : ¬ go = wz.heap.size := by omega
        have d0 : w2.cell? ⟨go, 0, none⟩ = some (.slice none 0 0) := H2.out.1.1.1.2.2.1.cell 0
        have y0 : w2.frozen? ⟨go, 0, none⟩ = false := H2.out.1.1.1.2.2.1.frozen 0
        clear hX2
        apply SeqT.two
        · apply EffT.go
          · rfl
          intro KE hKE
          go_wp2_with fail
          refine hKE _ _ (hTP' _ HBX.out) ?_
          clear hKE KE
          go_wp2_with (first
            | (apply SeqT.skip; rfl; simp only [Act.put, List.setIfInBounds_toArray, List.set_cons_zero, List.set_cons_succ])
            
            | (apply SeqT.pure; rfl; (intro w2 hw; have hw := hTP _ hw; (skip); go_simp; with_reducible rfl); simp only [Act.put, List.setIfInBounds_toArray, List.set_cons_zero, List.set_cons_succ]))
          apply SeqT.one
          apply EffT.go
          · rfl
          intro KE hKE
          go_wp2_with fail
          refine hKE _ _ (hTP' _ (HBX.out.alloc _)) ?_
          clear hKE KE
          go_wp2_with (first
            | (apply SeqT.skip; rfl; simp only [Act.put, List.setIfInBounds_toArray, List.set_cons_zero, List.set_cons_succ])
            
            | (apply SeqT.pure; rfl; (intro w2 hw; have hw := hTP _ hw; (skip); go_simp; with_reducible rfl); simp only [Act.put, List.setIfInBounds_toArray, List.set_cons_zero, List.set_cons_succ]))
          apply SeqT.one
          apply EffT.go
          · rfl
          intro KE hKE
          refine oper_app (by rfl) (by rfl) (by rfl) hrun ?_
          refine hKE _ _ (hTP' _ HX2.out) ?_
          clear hKE KE hrun
          go_wp2_with (first
            | (apply SeqT.skip; rfl; simp only [Act.put, List.setIfInBounds_toArray, List.set_cons_zero, List.set_cons_succ])
            
            | (apply SeqT.pure; rfl; (intro w2 hw; have hw := hTP _ hw; (skip); go_simp; with_reducible rfl); simp only [Act.put, List.setIfInBounds_toArray, List.set_cons_zero, List.set_cons_succ]))
          apply SeqT.one
          apply EffT.go
          · rfl
          intro KE hKE
          go_wp2_with fail
          have hlw := only_setCell (World.grownBy.refl w2 (some go)) (p := ⟨go, 0, none⟩) (.inl rfl) (Value.slice Ax 1 cx)
          have hgo2 : Blk w2 go 44 [.slice none 0 0] := H2.out.1.1.1.2.2.1
          have B3 := hgo2.set 0 (Value.slice Ax 1 cx)
          have R3 := H2.out.2.2.2.stored hgo2 (by simp) (by decide) hlw
          have K3 : Kept w (w2.setCell ⟨go, 0, none⟩ (Value.slice Ax 1 cx)) (some go) none := (Kept.ofBelow H2.out.1.1.1.1.1 _ _).trans (Kept.ofGrown hlw)
          have hne : ∀ m, m ≠ go → some m ≠ some go := fun m h e => h (Option.some.inj e)
          have X3 : Blk (w2.setCell ⟨go, 0, none⟩ (Value.slice Ax 1 cx)) g 53 (rcv xv) := by
            rw [← HXV.out]
            exact H2.out.1.1.2.1.grown hlw (hne _ (by have := H2.out.1.1.2.2.2; have := HK.out.2.2.2.1; omega))
          have T3 := H2.out.1.1.1.2.1.grown hlw (hne _ (by have := HK.out.2.2.2.1; omega))
          have Q3 := H2.out.2.1.grown hlw (hne _ (by have := H2.out.1.2; have := HK.out.2.2.2.1; omega))
          have L3 := H2.out.2.2.1.stored hgo2 (by simp) hlw
          have H3 := Lib.hid (And.intro B3 (And.intro R3 (And.intro K3 (And.intro T3 (And.intro Q3 L3)))))
          refine hKE _ _ (hTP' _ X3) ?_
          clear hKE KE
          apply SeqT.done
          refine hKP _ _ (hTP' _ X3) ?_
          clear hKP hTP hTP' B3 R3 K3 X3 T3 Q3 L3 hlw hgo2 hne H2
          generalize (w2.setCell ⟨go, 0, none⟩ (Value.slice Ax 1 cx)) = w3 at H3 ⊢
          go_wp2_with ((with_reducible refine at_list ?_); first | refine wpList_load_blk rfl 37 _ rfl _ rfl _ _ _ (H3.out.2.2.2.2.1) Try.underlying37 rfl rg_info ?_ | (refine wpList_store_own rfl 37 _ _ rfl _ (rgv qa sa) rfl rfl _ _ (H3.out.2.2.2.1) rg_info rfl (rgv_one _ _) ?_; intro wc Bc gc))
          have hsz := H3.out.2.2.2.1.lt
          have Bo := H3.out.1.grown gc (fun e => by have := HK.out.2.2.2.1; cases e; omega)
          have Ro := H3.out.2.1.stored H3.out.2.2.2.1 (by simp [rgv]) (by decide) gc
          have Lo := H3.out.2.2.2.2.2.stored H3.out.2.2.2.1 (by simp [rgv]) gc
          have Ko := H3.out.2.2.1.fresh gc (by omega)
          apply ret_of
          · exact results_blk_tmp rfl _ _ _ _ _ _ rfl (Bc) Try.underlying37 rfl rg_info _ rfl
          · refine ⟨rfl, Ko, ?_⟩
            · rw [HN2.out]
              exact ⟨sa, (Value.slice Ax 1 cx), [xv], rfl, Lo, Bo, Ro, by rw [← HXV.out]; rfl, fun y hy => by rw [List.mem_singleton.1 hy, ← HXV.out]; rfl⟩
        · apply EffT.go
          · rfl
          intro KE hKE
          go_wp2_with fail
          refine hKE _ _ (hTP' _ (HBX.out.alloc _)) ?_
          clear hKE KE
          go_wp2_with (first
            | (apply SeqT.skip; rfl; simp only [Act.put, List.setIfInBounds_toArray, List.set_cons_zero, List.set_cons_succ])
            
            | (apply SeqT.pure; rfl; (intro w2 hw; have hw := hTP _ hw; (skip); go_simp; with_reducible rfl); simp only [Act.put, List.setIfInBounds_toArray, List.set_cons_zero, List.set_cons_succ]))
          apply SeqT.one
          apply EffT.go
          · rfl
          intro KE hKE
          go_wp2_with fail
          refine hKE _ _ (hTP' _ (HBX.out.alloc _)) ?_
          clear hKE KE
          go_wp2_with (first
            | (apply SeqT.skip; rfl; simp only [Act.put, List.setIfInBounds_toArray, List.set_cons_zero, List.set_cons_succ])
            
            | (apply SeqT.pure; rfl; (intro w2 hw; have hw := hTP _ hw; (skip); go_simp; with_reducible rfl); simp only [Act.put, List.setIfInBounds_toArray, List.set_cons_zero, List.set_cons_succ]))
          apply SeqT.one
          apply EffT.go
          · rfl
          intro KE hKE
          refine oper_app (by rfl) (by rfl) (by rfl) hrun ?_
          refine hKE _ _ (hTP' _ HX2.out) ?_
          clear hKE KE hrun
          go_wp2_with (first
            | (apply SeqT.skip; rfl; simp only [Act.put, List.setIfInBounds_toArray, List.set_cons_zero, List.set_cons_succ])
            
            | (apply SeqT.pure; rfl; (intro w2 hw; have hw := hTP _ hw; (skip); go_simp; with_reducible rfl); simp only [Act.put, List.setIfInBounds_toArray, List.set_cons_zero, List.set_cons_succ]))
          apply SeqT.one
          apply EffT.go
          · rfl
          intro KE hKE
          go_wp2_with fail
          have hlw := only_setCell (World.grownBy.refl w2 (some go)) (p := ⟨go, 0, none⟩) (.inl rfl) (Value.slice Ax 1 cx)
          have hgo2 : Blk w2 go 44 [.slice none 0 0] := H2.out.1.1.1.2.2.1
          have B3 := hgo2.set 0 (Value.slice Ax 1 cx)
          have R3 := H2.out.2.2.2.stored hgo2 (by simp) (by decide) hlw
          have K3 : Kept w (w2.setCell ⟨go, 0, none⟩ (Value.slice Ax 1 cx)) (some go) none := (Kept.ofBelow H2.out.1.1.1.1.1 _ _).trans (Kept.ofGrown hlw)
          have hne : ∀ m, m ≠ go → some m ≠ some go := fun m h e => h (Option.some.inj e)
          have X3 : Blk (w2.setCell ⟨go, 0, none⟩ (Value.slice Ax 1 cx)) g 53 (rcv xv) := by
            rw [← HXV.out]
            exact H2.out.1.1.2.1.grown hlw (hne _ (by have := H2.out.1.1.2.2.2; have := HK.out.2.2.2.1; omega))
          have T3 := H2.out.1.1.1.2.1.grown hlw (hne _ (by have := HK.out.2.2.2.1; omega))
          have Q3 := H2.out.2.1.grown hlw (hne _ (by have := H2.out.1.2; have := HK.out.2.2.2.1; omega))
          have L3 := H2.out.2.2.1.stored hgo2 (by simp) hlw
          have H3 := Lib.hid (And.intro B3 (And.intro R3 (And.intro K3 (And.intro T3 (And.intro Q3 L3)))))
          refine hKE _ _ (hTP' _ X3) ?_
          clear hKE KE
          apply SeqT.done
          refine hKP _ _ (hTP' _ X3) ?_
          clear hKP hTP hTP' B3 R3 K3 X3 T3 Q3 L3 hlw hgo2 hne H2
          generalize (w2.setCell ⟨go, 0, none⟩ (Value.slice Ax 1 cx)) = w3 at H3 ⊢
          go_wp2_with ((with_reducible refine at_list ?_); first | refine wpList_load_blk rfl 37 _ rfl _ rfl _ _ _ (H3.out.2.2.2.2.1) Try.underlying37 rfl rg_info ?_ | (refine wpList_store_own rfl 37 _ _ rfl _ (rgv qa sa) rfl rfl _ _ (H3.out.2.2.2.1) rg_info rfl (rgv_one _ _) ?_; intro wc Bc gc))
          have hsz := H3.out.2.2.2.1.lt
          have Bo := H3.out.1.grown gc (fun e => by have := HK.out.2.2.2.1; cases e; omega)
          have Ro := H3.out.2.1.stored H3.out.2.2.2.1 (by simp [rgv]) (by decide) gc
          have Lo := H3.out.2.2.2.2.2.stored H3.out.2.2.2.1 (by simp [rgv]) gc
          have Ko := H3.out.2.2.1.fresh gc (by omega)
          apply ret_of
          · exact results_blk_tmp rfl _ _ _ _ _ _ rfl (Bc) Try.underlying37 rfl rg_info _ rfl
          · refine ⟨rfl, Ko, ?_⟩
            · rw [HN2.out]
              exact ⟨sa, (Value.slice Ax 1 cx), [xv], rfl, Lo, Bo, Ro, by rw [← HXV.out]; rfl, fun y hy => by rw [List.mem_singleton.1 hy, ← HXV.out]; rfl⟩
end Go.Proofs.Ytdphfhenjndkkaa

set_option linter.unusedSimpArgs false
set_option linter.unusedVariables false
set_option maxRecDepth 100000
namespace Go.Proofs.Ytdphfhenjndkkaa
open Go Go.RowKit Go.Sq Go.Wd Go.Arch Go.Im

theorem RRow.turned {w w' : World} {B b m n : Nat} {gr : Int} {G : Int → Option (Int × Int)} {v : Value} {L : List RecV} (h : RRow B w v L) (hB : Bk w b m n gr G) (hK : Kept w w' (some m) none) : RRow B w' v L := by
  obtain ⟨es, clock, hm⟩ := hB.map
  refine ⟨own_block h.1 hK.2.2.2.1 (fun g hg => ?_), fun x hx => ⟨(h.2 x hx).1.turned hB hK, fun b o e => ⟨((h.2 x hx).2 b o e).1, Nat.lt_of_lt_of_le ((h.2 x hx).2 b o e).2 hK.2.2.2.1⟩⟩⟩
  have hlt := (h.1.lt g hg).2
  refine hK.2.2.2.2 g hlt (fun e => ?_) (by simp)
  cases e
  rcases id h.1.2 with ⟨h', _⟩ | ⟨g', cap, cur, h', _, h2, _⟩
  · rw [h'] at hg; cases hg
  · rw [h'] at hg
    cases hg
    rw [hm] at h2
    cases h2
theorem grown_may {r q : RegS} {m : MailS} {l : List RecS} (hm : mayR r = true) (h : grownS r m = some (l, q)) : mayR q = true := by
  unfold grownS at h
  split at h
  · split at h
    · cases h; exact hm
    · split at h
      · cases hA : applyR r (recV m r.log.length ((joinM r m).drop r.log.length)) with
        | none => rw [hA] at h; cases h
        | some a => rw [hA] at h; cases h; exact (apply_stays hA).1
      · cases h
  · cases hA : applyR r (recV m m.base m.ents) with
    | none => rw [hA] at h; cases h
    | some a => rw [hA] at h; cases h; exact (apply_stays hA).1
def gapV (r : RegS) (m : MailS) : MailV := ⟨gapM r m, (none, 0, 0), (0, 0, 0, 0, 0), (0, 0, 0)⟩
theorem gap_pos {r : RegS} {m : MailS} {k : Nat} (h : m.epoch = r.view) (hn : k = r.log.length) : (mailv (backV m 6 m.epoch)).set 7 (.int .i64 (k : Int)) = mailv (gapV r m) := by
  subst hn
  unfold gapV gapM
  rw [if_pos h]
  rfl
theorem gap_neg {r : RegS} {m : MailS} (h : ¬ m.epoch = r.view) : mailv (backV m 6 m.epoch) = mailv (gapV r m) := by
  unfold gapV gapM
  rw [if_neg h]
  rfl
def ackV (q : RegS) (m : MailS) : MailV := ⟨ackM q m, (none, 0, 0), (0, 0, 0, 0, 0), (0, 0, 0)⟩
def recCV (q : RegS) (m : MailS) : RecV := ⟨3, m.stream, 0, 0, 0, min m.len q.log.length, (none, 0, 0), [], (none, 0, 0)⟩
theorem lay_refuse {r : RegS} {m : MailS} (h : m.epoch < r.prom) : layS r m = ⟨[], [refM r m], 0⟩ := if_pos h
theorem lay_gap {r : RegS} {m : MailS} (h : ¬ m.epoch < r.prom) (h2 : (r.view < m.epoch ∧ 0 < m.base) ∨ (r.log.length : Int) < m.base) : layS r m = ⟨[], [gapM r m], 0⟩ := by
  unfold layS; rw [if_neg h, if_pos h2]
theorem lay_none {r : RegS} {m : MailS} (h : ¬ m.epoch < r.prom) (h2 : ¬ ((r.view < m.epoch ∧ 0 < m.base) ∨ (r.log.length : Int) < m.base)) (h3 : grownS r m = none) : layS r m = nothing := by
  unfold layS; rw [if_neg h, if_neg h2, h3]
theorem lay_some {r q : RegS} {m : MailS} {l : List RecS} (h : ¬ m.epoch < r.prom) (h2 : ¬ ((r.view < m.epoch ∧ 0 < m.base) ∨ (r.log.length : Int) < m.base)) (h3 : grownS r m = some (l, q)) : layS r m = ⟨l ++ comS q m, [ackM q m], 1⟩ := by
  unfold layS; rw [if_neg h, if_neg h2, h3]

set_option maxHeartbeats 16000000 in
theorem rlay_stop (r : RegS) (sl : SlcE) (b mm n : Nat) (gr : Int) (G : Int → Option (Int × Int)) (x : MailV) (now : Int) (w : World) (hB : Bk w b mm n gr G) (hn : n < maxLen) (h0 : 0 ≤ now) (hl : LogAt w w.heap.size sl r.log) (hx : LogAt w w.heap.size x.es x.m.ents) (hx2 : x.m.ents.length ≤ 1000) (hok : mailOk r x.m) (hst : x.m.epoch < r.prom ∨ (r.view < x.m.epoch ∧ 0 < x.m.base) ∨ (r.log.length : Int) < x.m.base) :
    Calls Try.prog 38 #[.agg (rgv r sl).toArray, .pointer (some ⟨b, 0, none⟩), .agg (mailv x).toArray, .int .i64 now] w (TakeP (layS r x.m) b mm n gr G x.m now w) := by
  obtain ⟨k1, k2, k3, k4, k5, k6⟩ := hok
  have m64 : r.log.length ≤ 64 := ((okLog_iff _ _).1 ((mayR_iff r).1 k1).2.1).1
  have hwf : (Lit.int .i64 x.m.stream).wf = true := wf_small (by omega)
  have hI0 := RpI.new (x := x) hl
  have FC : ∀ W, RpI w W r sl x → (W.cell? ⟨w.heap.size + 1, 3, none⟩ = some (.int .i64 x.m.stream) ∧ W.cell? ⟨w.heap.size + 1, 4, none⟩ = some (.int .i64 x.m.epoch) ∧ W.cell? ⟨w.heap.size + 1, 6, none⟩ = some (.int .i64 x.m.base) ∧ W.cell? ⟨w.heap.size + 1, 7, none⟩ = some (.int .i64 x.m.len) ∧ W.cell? ⟨w.heap.size + 1, 8, none⟩ = some (.int .i64 x.m.stamp)) ∧
      W.cell? ⟨w.heap.size, 0, none⟩ = some (.int .i64 r.prom) ∧ W.cell? ⟨w.heap.size, 1, none⟩ = some (.int .i64 r.view) ∧ W.cell? ⟨w.heap.size, 2, none⟩ = some (.slice sl.1 sl.2.1 sl.2.2) := fun W h => ⟨⟨h.2.2.1.cell 3, h.2.2.1.cell 4, h.2.2.1.cell 6, h.2.2.1.cell 7, h.2.2.1.cell 8⟩, h.2.1.cell 0, h.2.1.cell 1, h.2.1.cell 2⟩
  have hsn : sl.2.1 = r.log.length := hl.1
  have HI := Lib.hid hI0
  have HB := Lib.hid hB
  have HK := Lib.hid (And.intro hwf (And.intro k1 (And.intro hn (And.intro h0 (And.intro hx2 (And.intro k4 (And.intro hl (And.intro hx (And.intro m64 hsn)))))))))
  have hzz := hI0.1
  clear hI0 hl hB hwf k1 k2 k3 k4 k5 k6 hn hx hx2 m64 hzz
  obtain ⟨⟨f3, f4, f6, f7, f8⟩, g0, g1, g2⟩ := FC _ HI.out
  by_cases c1 : x.m.epoch < r.prom
  case pos =>
    have HS := Lib.hid (lay_refuse c1)
    go_enter Try.func38, Try.ntmps38
    go_wp2_with ((with_reducible refine at_list ?_); first | refine wpList_load_blk rfl 37 _ rfl _ rfl _ _ _ (HI.out.2.1) Try.underlying37 rfl rg_info ?_ | refine wpList_load_blk rfl 43 _ rfl _ rfl _ _ _ (HI.out.2.2.1) Try.underlying43 rfl mail_info ?_)
    refine (refuse_any r sl x _).mono ?_
    rintro e w4 ⟨A, rfl, hM, hb4⟩
    have H4 := Lib.hid (And.intro (below_trans HI.out.1 hb4 HI.out.1.size) hM)
    clear hM hb4 HI f3 f4 f6 f7 f8 g0 g1 g2
    go_wp2_with fail
    go_ret2
    rw [HS.out]
    exact TakeP.pure rfl (Answer.mail rfl H4.out.2 rfl ⟨rfl, rfl⟩) HB.out H4.out.1
  have b0 : (0 : Int) ≤ (sl.2.1 : Int) := by omega
  have hcs : (r.view < x.m.epoch ∧ 0 < x.m.base) ∨ (¬ r.view < x.m.epoch ∧ (sl.2.1 : Int) < x.m.base) := by
    rw [← hsn] at hst
    omega
  clear hst
  rcases hcs with ⟨a1, a2⟩ | ⟨a1, a2⟩
  iterate 2
    focus
      have HS := Lib.hid (lay_gap c1 (by first | exact .inl ⟨a1, a2⟩ | exact .inr (by rw [← hsn]; exact a2)))
      by_cases hv : x.m.epoch = r.view
      case' pos => have hve : (x.m.epoch == r.view) = true := by simpa using hv
      case' neg => have hve : (x.m.epoch == r.view) = false := by simpa using hv
      all_goals
        have HV := Lib.hid hv
        clear hv hsn
        go_enter Try.func38, Try.ntmps38
        go_wp2_with ((with_reducible refine at_list ?_); first | refine wpList_load_blk rfl 43 _ rfl _ rfl _ _ _ (HI.out.2.2.1) Try.underlying43 rfl mail_info ?_)
        refine (back_any x 6 x.m.epoch _).mono ?_
        rintro e w6 ⟨rfl, hb6⟩
        have h6 := HI.out.keep hb6
        have H6 := Lib.hid h6
        clear hb6 h6 HI f3 f4 f6 f7 f8 g0 g1 g2
        obtain ⟨⟨f3, f4, f6, f7, f8⟩, g0, g1, g2⟩ := FC _ H6.out
        go_wp2_with ((with_reducible refine at_list ?_); first | (with_reducible refine cut_at 46 rfl ?_) | (refine wpList_store_own rfl 43 _ _ rfl _ (mailv (backV x.m 6 x.m.epoch)) rfl rfl _ _ (Blk.new w6 43 (mailv backV0)) mail_info rfl (mail_one _) ?_; intro w7 B7 g7))
        refine Cut.go ?_
        have hb7 := below_new g7
        have h7 := H6.out.keep hb7
        have H7 := Lib.hid (And.intro h7 B7)
        have hsz := H6.out.1.size
        clear hb7 h7 B7 g7 H6 f3 f4 f6 f7 f8 g0 g1 g2
        obtain ⟨⟨f3, f4, f6, f7, f8⟩, g0, g1, g2⟩ := FC _ H7.out.1
        have c7 : w7.cell? ⟨w6.heap.size, 7, none⟩ = some (.int .i64 0) := H7.out.2.cell 7
        have z7 : w7.frozen? ⟨w6.heap.size, 7, none⟩ = false := H7.out.2.frozen 7
        generalize w6.heap.size = g at *
        go_wp2_with fail
        refine abs_code (fun W => Below w.heap.size w W ∧ Blk W g 43 (mailv (gapV r x.m))) (by first
          | exact ⟨((H7.out.1.1).trans (below_grown (only_setCell (World.grownBy.refl w7 (some g)) (p := ⟨g, 7, none⟩) (.inl rfl) _) hsz H7.out.1.1.size)), by rw [← gap_pos HV.out HK.out.2.2.2.2.2.2.2.2.2]; exact H7.out.2.set 7 _⟩
          | exact ⟨H7.out.1.1, by rw [← gap_neg HV.out]; exact H7.out.2⟩) ?_
        intro wy0 hg0
        have hg : Below w.heap.size w wy0.drew ∧ Blk wy0.drew g 43 (mailv (gapV r x.m)) := ⟨hg0.1.drew, hg0.2.drew⟩
        clear hg0
        obtain ⟨wy, hwy⟩ : ∃ wy, wy0.drew = wy := ⟨_, rfl⟩
        rw [hwy] at hg
        have hy : LogAt wy wy.heap.size (gapV r x.m).es (gapV r x.m).m.ents := LogAt.nil
        have hm := mails_lit wy (gapV r x.m) hy
        have ha := hg.1.alloc hg.1.size (.cells (mailv (gapV r x.m)).toArray 43)
        have HG := Lib.hid (And.intro hg (And.intro hm ha))
        clear hg hy hm ha H7 f3 f4 f6 f7 f8 g0 g1 g2 c7 z7 hve HV
        refine wp_region_p ([(0, true), (2, true), (1, false), (3, true)]) (fun w' => Blk w' g 43 (mailv (gapV r x.m))) (by kernel_rfl) rfl (by kernel_rfl) (by kernel_rfl) (by rw [hwy]; exact HG.out.1.2) rfl ?_
        intro KP RP TP hKP hTP hTP'
        simp only [List.append_eq, List.cons_append, List.nil_append, pick, nth]
        rw [hwy]
        clear hwy
        go_wp2_with (first
          | (apply SeqP.skip; rfl; simp only [Act.put, List.setIfInBounds_toArray, List.set_cons_zero, List.set_cons_succ])
          | (apply SeqP.pure; rfl; (intro w2 hw; have hw := hTP _ hw; exact exec_load_blk 43 _ rfl _ rfl _ _ (hw) _ Try.underlying43 rfl mail_info); simp only [Act.put, List.setIfInBounds_toArray, List.set_cons_zero, List.set_cons_succ])
          | (apply SeqP.call; rfl; rfl; (intro w2 hw; have hw := hTP _ hw; (skip); go_simp; exact ⟨rfl, rfl⟩); (intro w2 hw; have hw := hTP _ hw; (skip); (first | fail)); simp only [Act.put, List.setIfInBounds_toArray, List.set_cons_zero, List.set_cons_succ])
          | (apply SeqP.pure; rfl; (intro w2 hw; have hw := hTP _ hw; (skip); go_simp; with_reducible rfl); simp only [Act.put, List.setIfInBounds_toArray, List.set_cons_zero, List.set_cons_succ])
          | (apply SeqP.split; rfl; rfl; all_goals (intro hc; simp only [hc]; try simp only [beq_iff_eq, decide_eq_true_eq, beq_eq_false_iff_ne, decide_eq_false_iff_not, bne_iff_ne, ne_eq, Bool.not_eq_true', Bool.not_eq_false', Int.not_le, Int.not_lt, bne_eq_false_iff_eq, Bool.or_eq_true, Bool.and_eq_true, Bool.or_eq_false_iff] at hc)))
        apply SeqP.eff
        · rfl
        intro KE hKE
        have HGV := Lib.hid (show (gapV r x.m).m = gapM r x.m ∧ (gapV r x.m).o = (0, 0, 0, 0, 0) ∧ (gapV r x.m).an = (0, 0, 0) from ⟨rfl, rfl, rfl⟩)
        generalize gapV r x.m = gv at *
        unfold mailv
        go_wp2_with fail
        refine hKE _ _ (hTP' _ (HG.out.1.2.alloc _)) ?_
        clear hKE KE
        go_wp2_with (first
          | (apply SeqP.skip; rfl; simp only [Act.put, List.setIfInBounds_toArray, List.set_cons_zero, List.set_cons_succ])
          | (apply SeqP.call; rfl; rfl; (intro w2 hw; have hw := hTP _ hw; (skip); go_simp; exact ⟨rfl, rfl⟩); (intro w2 hw; have hw := hTP _ hw; (skip); (first | fail)); simp only [Act.put, List.setIfInBounds_toArray, List.set_cons_zero, List.set_cons_succ])
          | (apply SeqP.pure; rfl; (intro w2 hw; have hw := hTP _ hw; (skip); go_simp; with_reducible rfl); simp only [Act.put, List.setIfInBounds_toArray, List.set_cons_zero, List.set_cons_succ])
          | (apply SeqP.split; rfl; rfl; all_goals (intro hc; simp only [hc]; try simp only [beq_iff_eq, decide_eq_true_eq, beq_eq_false_iff_ne, decide_eq_false_iff_not, bne_iff_ne, ne_eq, Bool.not_eq_true', Bool.not_eq_false', Int.not_le, Int.not_lt, bne_eq_false_iff_eq, Bool.or_eq_true, Bool.and_eq_true, Bool.or_eq_false_iff] at hc)))
        apply SeqP.nil
        refine hKP _ _ (hTP' _ (HG.out.1.2.alloc _)) ?_
        clear hKP hTP hTP'
        go_wp2_with fail
        go_ret2
        rw [HS.out]
        exact TakeP.pure rfl (Answer.mail rfl HG.out.2.1 (by rw [HGV.out.1]) HGV.out.2) HB.out HG.out.2.2
end Go.Proofs.Ytdphfhenjndkkaa

set_option linter.unusedSimpArgs false
set_option linter.unusedVariables false
set_option maxRecDepth 100000
namespace Go.Proofs.Ytdphfhenjndkkaa
open Go Go.RowKit Go.Sq Go.Wd Go.Arch Go.Im

theorem grown_few {r q : RegS} {m : MailS} {l : List RecS} (h : grownS r m = some (l, q)) : l.length ≤ 1 := by
  unfold grownS at h
  split at h
  · split at h
    · cases h; simp
    · split at h
      · cases hA : applyR r (recV m r.log.length ((joinM r m).drop r.log.length)) with
        | none => rw [hA] at h; cases h
        | some a => rw [hA] at h; cases h; simp
      · cases h
  · cases hA : applyR r (recV m m.base m.ents) with
    | none => rw [hA] at h; cases h
    | some a => rw [hA] at h; cases h; simp
def recCn (m : MailS) (k : Int) : RecV := ⟨3, m.stream, 0, 0, 0, k, (none, 0, 0), [], (none, 0, 0)⟩
def LyI (w W : World) (r : RegS) (sl : SlcE) (x : MailV) (b mm n : Nat) (gr : Int) (G : Int → Option (Int × Int)) : Prop :=
  RpI w W r sl x ∧ Blk W (w.heap.size + 1 + 1) 44 [.slice none 0 0] ∧ LogAt W W.heap.size x.es x.m.ents ∧ Bk W b mm n gr G
/-- Behind 'grown': the boxes, the records, the register. -/
def LyJ (w W : World) (r : RegS) (sl : SlcE) (x : MailV) (b mm n : Nat) (gr : Int) (G : Int → Option (Int × Int)) (B g : Nat) (q : RegS) (s : SlcE) (v : Value) (xs : List RecV) : Prop :=
  RpI w W r sl x ∧ Blk W (w.heap.size + 1 + 1) 44 [v] ∧ RRow B W v xs ∧ Blk W g 37 (rgv q s) ∧ LogAt W W.heap.size s q.log ∧ Bk W b mm n gr G ∧ B ≤ W.heap.size ∧ w.heap.size + 1 + 1 < g
theorem LyJ.keep {w W W' : World} {r : RegS} {sl : SlcE} {x : MailV} {b mm n : Nat} {gr : Int} {G : Int → Option (Int × Int)} {B g : Nat} {q : RegS} {s : SlcE} {v : Value} {xs : List RecV} (h : LyJ w W r sl x b mm n gr G B g q s v xs) (hb : Below W.heap.size W W') : LyJ w W' r sl x b mm n gr G B g q s v xs :=
  ⟨h.1.keep hb, h.2.1.keep hb, h.2.2.1.keep hb, h.2.2.2.1.keep hb, h.2.2.2.2.1.keep hb, h.2.2.2.2.2.1.below hb, Nat.le_trans h.2.2.2.2.2.2.1 hb.size, h.2.2.2.2.2.2.2⟩

theorem RRow.rcs {B : Nat} {w : World} {A : Option Addr} {n c : Nat} {L : List RecV} (h : RRow B w (.slice A n c) L) : Rcs w w.heap.size A L := by
  obtain ⟨A', c', e, _, _, h'⟩ := h.recs
  injection e with e1
  rw [e1]
  exact h'
/-- What is left to be known. -/
def LyK (w W : World) (x : MailV) (g : Nat) (q : RegS) (s : SlcE) (v : Value) (xs : List RecV) : Prop :=
  Below w.heap.size w W ∧ Blk W (w.heap.size + 1) 43 (mailv x) ∧ Blk W (w.heap.size + 1 + 1) 44 [v] ∧ RRow w.heap.size W v xs ∧ Blk W g 37 (rgv q s) ∧ w.heap.size + 1 + 1 < g
theorem LyK.keep {w W W' : World} {x : MailV} {g : Nat} {q : RegS} {s : SlcE} {v : Value} {xs : List RecV} (h : LyK w W x g q s v xs) (hb : Below W.heap.size W W') : LyK w W' x g q s v xs :=
  ⟨below_trans h.1 hb h.1.size, h.2.1.keep hb, h.2.2.1.keep hb, h.2.2.2.1.keep hb, h.2.2.2.2.1.keep hb, h.2.2.2.2.2⟩
theorem blk_beside {w w' : World} {B k : Nat} {T : TypeId} {cs : List Value} {v : Value} {L : List RecV} (h : Blk w k T cs) (hT : 53 ≠ T) (hR : RRow B w v L) (hg : w.grownBy w' v.ownBlock) : Blk w' k T cs :=
  h.grown hg (fun e => own_not hR.1 e.symm hT _ h)
theorem LyK.snoc {w W W' : World} {x : MailV} {g : Nat} {q : RegS} {s : SlcE} {v v' : Value} {xs xs' : List RecV} (h : LyK w W x g q s v xs) (hg : W.grownBy W' v.ownBlock) (hR : RRow w.heap.size W' v' xs') :
    LyK w (W'.setCell ⟨w.heap.size + 1 + 1, 0, none⟩ v') x g q s v' xs' := by
  obtain ⟨h1, h2, h3, h4, h5, h6⟩ := h
  have a1 := Gr.below_row h1 hg h4.1 h1.size
  have a2 := blk_beside h2 (by decide) h4 hg
  have a3 := blk_beside h3 (by decide) h4 hg
  have a5 := blk_beside h5 (by decide) h4 hg
  have hl := only_setCell (World.grownBy.refl W' (some (w.heap.size + 1 + 1))) (p := ⟨w.heap.size + 1 + 1, 0, none⟩) (.inl rfl) v'
  exact ⟨a1.trans (below_grown hl (by omega) a1.size), a2.grown hl (fun e => by have := Option.some.inj e; omega), a3.set 0 v', hR.stored a3 (by simp) (by decide) hl, a5.grown hl (fun e => by have := Option.some.inj e; omega), h6⟩

set_option maxHeartbeats 16000000 in
theorem rlay_go (r : RegS) (sl : SlcE) (b mm n : Nat) (gr : Int) (G : Int → Option (Int × Int)) (x : MailV) (now : Int) (w : World) (hB : Bk w b mm n gr G) (hn : n < maxLen) (h0 : 0 ≤ now) (hl : LogAt w w.heap.size sl r.log) (hx : LogAt w w.heap.size x.es x.m.ents) (hx2 : x.m.ents.length ≤ 1000) (hok : mailOk r x.m) (hst : ¬ (x.m.epoch < r.prom ∨ (r.view < x.m.epoch ∧ 0 < x.m.base) ∨ (r.log.length : Int) < x.m.base)) :
    Calls Try.prog 38 #[.agg (rgv r sl).toArray, .pointer (some ⟨b, 0, none⟩), .agg (mailv x).toArray, .int .i64 now] w (TakeP (layS r x.m) b mm n gr G x.m now w) := by
  obtain ⟨k1, k2, k3, k4, k5, k6⟩ := hok
  have m64 : r.log.length ≤ 64 := ((okLog_iff _ _).1 ((mayR_iff r).1 k1).2.1).1
  have hwf : (Lit.int .i64 x.m.stream).wf = true := wf_small (by omega)
  have hI0 := RpI.new (x := x) hl
  have FC : ∀ W, RpI w W r sl x → (W.cell? ⟨w.heap.size + 1, 3, none⟩ = some (.int .i64 x.m.stream) ∧ W.cell? ⟨w.heap.size + 1, 4, none⟩ = some (.int .i64 x.m.epoch) ∧ W.cell? ⟨w.heap.size + 1, 6, none⟩ = some (.int .i64 x.m.base) ∧ W.cell? ⟨w.heap.size + 1, 7, none⟩ = some (.int .i64 x.m.len) ∧ W.cell? ⟨w.heap.size + 1, 8, none⟩ = some (.int .i64 x.m.stamp)) ∧
      W.cell? ⟨w.heap.size, 0, none⟩ = some (.int .i64 r.prom) ∧ W.cell? ⟨w.heap.size, 1, none⟩ = some (.int .i64 r.view) ∧ W.cell? ⟨w.heap.size, 2, none⟩ = some (.slice sl.1 sl.2.1 sl.2.2) := fun W h => ⟨⟨h.2.2.1.cell 3, h.2.2.1.cell 4, h.2.2.1.cell 6, h.2.2.1.cell 7, h.2.2.1.cell 8⟩, h.2.1.cell 0, h.2.1.cell 1, h.2.1.cell 2⟩
  have hsn : sl.2.1 = r.log.length := hl.1
  have HI := Lib.hid hI0
  have HB := Lib.hid hB
  have HK := Lib.hid (And.intro hwf (And.intro k1 (And.intro hn (And.intro h0 (And.intro hx2 (And.intro k4 (And.intro hl (And.intro hx (And.intro m64 hsn)))))))))
  have hzz := hI0.1
  clear hI0 hl hB hwf k1 k2 k3 k4 k5 k6 hn hx hx2 m64 hzz
  obtain ⟨⟨f3, f4, f6, f7, f8⟩, g0, g1, g2⟩ := FC _ HI.out
  have c1 : ¬ x.m.epoch < r.prom := fun h => hst (.inl h)
  have hng : ¬ ((r.view < x.m.epoch ∧ 0 < x.m.base) ∨ (r.log.length : Int) < x.m.base) := fun h => hst (.inr h)
  have HL1 : Hid (grownS r x.m = none → layS r x.m = nothing) := Lib.hid (fun h => lay_none c1 hng h)
  have HL2 : Hid (∀ l q, grownS r x.m = some (l, q) → layS r x.m = ⟨l ++ comS q x.m, [ackM q x.m], 1⟩) := Lib.hid (fun l q h => lay_some c1 hng h)
  have HBL := Lib.hid (show x.m.base ≤ (r.log.length : Int) from by omega)
  have a2 : ¬ (sl.2.1 : Int) < x.m.base := fun h => hng (.inr (by rw [← hsn]; exact h))
  have hcs : (r.view < x.m.epoch ∧ ¬ 0 < x.m.base) ∨ ¬ r.view < x.m.epoch := by omega
  clear hst hng
  rcases hcs with ⟨a1, a3⟩ | a1
  all_goals
    clear hsn
    go_enter Try.func38, Try.ntmps38
    go_wp2_with ((with_reducible refine at_list ?_); (with_reducible refine cut_at 58 rfl ?_))
    refine Cut.go ?_
    clear c1 a1 a2 f3 f4 f6 f7 f8 g0 g1 g2
    try clear a3
    refine abs_list (fun W => LyI w W r sl x b mm n gr G) ?_ ?_
    · have hbb := (Below.refl ((w.alloc (.cells (rgv r sl).toArray 37)).alloc (.cells (mailv x).toArray 43)).heap.size ((w.alloc (.cells (rgv r sl).toArray 37)).alloc (.cells (mailv x).toArray 43))).alloc (Nat.le_refl _) (.cells ([.slice none 0 0] : List Value).toArray 44)
      exact ⟨HI.out.keep hbb, Blk.newAt _ _ _ (by simp), (HK.out.2.2.2.2.2.2.2.1.keep HI.out.1).keep hbb, (HB.out.below HI.out.1).below hbb⟩
    clear HI
    intro w1 hI1
    have H1 := Lib.hid hI1
    clear hI1
    go_wp2_with ((with_reducible refine at_list ?_); first | refine wpList_load_blk rfl 37 _ rfl _ rfl _ _ _ (H1.out.1.2.1) Try.underlying37 rfl rg_info ?_ | refine wpList_load_blk rfl 43 _ rfl _ rfl _ _ _ (H1.out.1.2.2.1) Try.underlying43 rfl mail_info ?_)
    refine (grown_any r sl x (w.heap.size + 1 + 1) w1 HK.out.2.1 H1.out.1.2.2.2 H1.out.2.2.1 HK.out.2.2.2.2.1 H1.out.2.1 HK.out.2.2.2.2.2.1 HBL.out).mono ?_
    rintro e w2 ⟨hK2, hG2⟩
    have hb2 : Below w.heap.size w w2 := H1.out.1.1.trans (hK2.below (B := w.heap.size) (fun k e => by cases e; omega) (fun k e => by cases e) H1.out.1.1.size)
    have hR2 := hK2.blk H1.out.1.2.1 (fun e => by have h := Option.some.inj e; omega) (by simp)
    have hM2 := hK2.blk H1.out.1.2.2.1 (fun e => by have h := Option.some.inj e; omega) (by simp)
    have hI2 : RpI w w2 r sl x := ⟨hb2, hR2, hM2, (HK.out.2.2.2.2.2.2.1.below hb2).more hb2.size⟩
    have hs2 := hK2.2.2.2.1
    have hgo := H1.out.2.1.lt
    cases hgr : grownS r x.m with
    | none =>
      rw [hgr] at hG2
      obtain ⟨q0, s0, rfl⟩ := hG2
      have HS := Lib.hid (HL1.out hgr)
      have H2 := Lib.hid hb2
      clear hK2 hb2 hR2 hM2 hI2 hgr H1 hs2 hgo
      go_wp2_with ((with_reducible refine at_list ?_); first | (refine wpList_store_own rfl 37 _ _ rfl _ (rgv q0 s0) rfl rfl _ _ (Blk.new w2 37 (rgv reg0 (none, 0, 0))) rg_info rfl (rgv_one _ _) ?_; intro w3 B3 g3))
      have hw3 := below_trans H2.out (below_new g3) H2.out.size
      go_ret2
      rw [HS.out]
      exact TakeP.pure rfl Answer.nothing HB.out hw3
    | some p =>
      obtain ⟨recs, q⟩ := p
      rw [hgr] at hG2
      obtain ⟨⟨s1, sn, sc⟩, v, xs, rfl, hL2, hO2, hX2, hx2, hf2⟩ := hG2
      obtain rfl : sn = q.log.length := hL2.1
      replace hX2 : RRow w.heap.size w2 v xs := ⟨Gr.Row.base hX2.1 H1.out.1.1.size, hX2.2⟩
      obtain ⟨Av, cv, rfl, -, -, -⟩ := hX2.recs
      have hqm := grown_may HK.out.2.1 hgr
      have HS := Lib.hid (HL2.out _ _ hgr)
      have hq64 : q.log.length ≤ 64 := ((okLog_iff _ _).1 ((mayR_iff q).1 hqm).2.1).1
      have hrl : recs.length ≤ 1 := grown_few hgr
      have HX := Lib.hid (And.intro hx2 (And.intro hf2 (And.intro hqm (And.intro hq64 hrl))))
      have H2 := Lib.hid (And.intro hI2 (And.intro hO2 (And.intro hX2 (And.intro hL2 (And.intro (HB.out.below hb2) (And.intro hs2 (Nat.lt_of_lt_of_le hgo hs2)))))))
      clear hK2 hb2 hR2 hM2 hI2 hgr H1 hs2 hgo hL2 hO2 hX2 hx2 hf2 hqm hq64 hrl
      go_wp2_with ((with_reducible refine at_list ?_); first | (with_reducible refine cut_at 65 rfl ?_) | (refine wpList_store_own rfl 37 _ _ rfl _ (rgv q (s1, q.log.length, sc)) rfl rfl _ _ (Blk.new w2 37 (rgv reg0 (none, 0, 0))) rg_info rfl (rgv_one _ _) ?_; intro w3 B3 g3))
      refine Cut.go ?_
      have hb3 := below_new g3
      have h3 : LyJ w w3 r sl x b mm n gr G w.heap.size w2.heap.size q (s1, q.log.length, sc) (.slice Av xs.length cv) xs :=
        ⟨H2.out.1.keep hb3, H2.out.2.1.keep hb3, H2.out.2.2.1.keep hb3, B3, H2.out.2.2.2.1.keep hb3, H2.out.2.2.2.2.1.below hb3, Nat.le_trans H2.out.1.1.size hb3.size, H2.out.2.2.2.2.2.2⟩
      have H3 := Lib.hid h3
      clear hb3 h3 B3 g3 H2
      generalize w2.heap.size = gq at H3 ⊢
      obtain ⟨⟨f3, f4, f6, f7, f8⟩, g0, g1, g2⟩ := FC _ H3.out.1
      obtain ⟨mn, hmn⟩ : ∃ mn, min x.m.len (q.log.length : Int) = mn := ⟨_, rfl⟩
      have HMN := Lib.hid hmn
      have t2 : w3.cell? ⟨gq, 2, none⟩ = some (.slice s1 q.log.length sc) := H3.out.2.2.2.1.cell 2
      clear hmn
      by_cases hml : (q.log.length : Int) < x.m.len
      case' pos => have hmm : (q.log.length : Int) = mn := by have := HMN.out; omega
      case' neg => have hmm : x.m.len = mn := by have := HMN.out; omega
      all_goals
       have HMM := Lib.hid hmm
       clear hmm
       go_wp2_with ((with_reducible refine at_list ?_); (with_reducible refine cut_at 74 rfl ?_))
       refine Cut.go ?_
       clear f3 f4 f6 f7 f8 g0 g1 g2 t2 hml
       refine abs_list (fun W => LyJ w W r sl x b mm n gr G w.heap.size gq q (s1, q.log.length, sc) (.slice Av xs.length cv) xs ∧ Blk W w3.heap.size 53 (rcv (recCn x.m mn))) ⟨H3.out.keep ((Below.refl _ _).alloc (Nat.le_refl _) _), by rw [← HMM.out]; exact Blk.new w3 53 (rcv (recCn x.m _))⟩ ?_
       clear HMM
       clear H3
       intro w4 h4
       have H4 := Lib.hid h4
       clear h4
       generalize w3.heap.size = gc at H4 ⊢
       have hsome : (applyR q (recCn x.m mn).s).isSome = decide (q.com < mn) := by
         rw [apply_3 HX.out.2.2.1 rfl]
         show (if q.com < mn ∧ mn ≤ (q.log.length : Int) then _ else _ : Option RegS).isSome = _
         have hle : mn ≤ (q.log.length : Int) := by have := HMN.out; omega
         by_cases hp : q.com < mn
         · rw [if_pos ⟨hp, hle⟩, decide_eq_true hp]; rfl
         · rw [if_neg (fun h => hp h.1), decide_eq_false hp]; rfl
       have HSM := Lib.hid hsome
       clear hsome
       go_wp2_with ((with_reducible refine at_list ?_); first | refine wpList_load_blk rfl 37 _ rfl _ rfl _ _ _ (H4.out.1.2.2.2.1) Try.underlying37 rfl rg_info ?_ | refine wpList_load_blk rfl 53 _ rfl _ rfl _ _ _ (H4.out.2) Try.underlying53 rfl rc_info ?_)
       refine (may_any q (s1, q.log.length, sc) (recCn x.m mn) w4 H4.out.1.2.2.2.2.1 LogAt.nil (by simp [recCn])).mono ?_
       rw [HSM.out]
       rintro e w5 ⟨rfl, hb5⟩
       have H5 := Lib.hid (And.intro (H4.out.1.keep hb5) (H4.out.2.keep hb5))
       clear hb5 H4 HSM
       have hcc : comS q x.m = if q.com < mn then [recC q x.m] else [] := by unfold comS; rw [HMN.out]
       obtain ⟨cr, hcr⟩ : ∃ cr, recCn x.m mn = cr := ⟨_, rfl⟩
       have HCR := Lib.hid (show cr.s = recC q x.m ∧ cr.fs = (none, 0, 0) ∧ cr.es = (none, 0, 0) ∧ cr.ents = [] from by rw [← hcr]; exact ⟨by unfold recC; rw [HMN.out]; rfl, rfl, rfl, rfl⟩)
       have H6 := Lib.hid (show LyK w w5 x gq q (s1, q.log.length, sc) (.slice Av xs.length cv) xs ∧ Blk w5 gc 53 (rcv cr) from
         ⟨⟨H5.out.1.1.1, H5.out.1.1.2.2.1, H5.out.1.2.1, H5.out.1.2.2.1, H5.out.1.2.2.2.1, H5.out.1.2.2.2.2.2.2.2⟩, by rw [← hcr]; exact H5.out.2⟩)
       clear H5 hcr
       by_cases hp : q.com < mn
       case' pos =>
         rw [decide_eq_true hp]
         rw [if_pos hp] at hcc
         have HC := Lib.hid hcc
         clear hp hcc
         have hlen : xs.length < 100000 := by
           have h1 := congrArg List.length HX.out.1
           rw [List.length_map] at h1
           have h2 : recs.length ≤ 1 := HX.out.2.2.2.2
           omega
         obtain ⟨v2, w6, hrun, hR6, hg6⟩ := RRow.snoc H6.out.1.2.2.2.1 cr ⟨by rw [HCR.out.2.2.1, HCR.out.2.2.2]; exact LogAt.nil, fun b o e => by rw [HCR.out.2.2.1] at e; cases e⟩ hlen H6.out.1.1.size
         obtain ⟨L2, hL2⟩ : ∃ L2, xs ++ [cr] = L2 := ⟨_, rfl⟩
         rw [hL2] at hR6
         have HL2 := Lib.hid hL2
         clear hL2
         obtain ⟨A2, c2, rfl, -, -, -⟩ := hR6.recs
         have h7 := H6.out.1.snoc hg6 hR6
         have c0 : w5.cell? ⟨w.heap.size + 1 + 1, 0, none⟩ = some (.slice Av xs.length cv) := H6.out.1.2.2.1.cell 0
         have hZ6 := blk_beside H6.out.1.2.2.1 (by decide) H6.out.1.2.2.2.1 hg6
         have d0 : w6.cell? ⟨w.heap.size + 1 + 1, 0, none⟩ = some (.slice Av xs.length cv) := hZ6.cell 0
         have y0 : w6.frozen? ⟨w.heap.size + 1 + 1, 0, none⟩ = false := hZ6.frozen 0
         have H7 := Lib.hid h7
         clear h7 hR6 hg6 hZ6 hlen
         go_wp2_with ((with_reducible refine at_list ?_); first | (with_reducible refine cut_at 79 rfl ?_) | refine wpList_load_blk rfl 53 _ rfl _ rfl _ _ _ (H6.out.2) Try.underlying53 rfl rc_info ?_)
         refine Cut.go ?_
         unfold rcv at hrun ⊢
         go_wp2_with (first | ((with_reducible refine at_list ?_); (with_reducible refine cut_at 82 rfl ?_)) | (at_builtin; refine wpList_app rfl (by rfl) (by rfl) (by rfl) hrun ?_))
         refine Cut.go ?_
         refine abs_list (fun W => ∃ Az cz xs', LyK w W x gq q (s1, q.log.length, sc) (.slice Az xs'.length cz) xs' ∧ xs'.map RecV.s = recs ++ comS q x.m ∧ ∀ y ∈ xs', y.fs = (none, 0, 0)) ⟨A2, c2, L2, H7.out, by rw [HC.out, ← HL2.out, List.map_append, HX.out.1, List.map_singleton, HCR.out.1], fun y hy => by
           rw [← HL2.out] at hy
           rcases List.mem_append.1 hy with h | h
           · exact HX.out.2.1 y h
           · rw [List.mem_singleton.1 h]; exact HCR.out.2.1⟩ ?_
         clear c0 d0 y0 hrun H7 HL2
       case' neg =>
         rw [decide_eq_false hp]
         rw [if_neg hp] at hcc
         have HC := Lib.hid hcc
         clear hp hcc
         go_wp2_with ((with_reducible refine at_list ?_); (with_reducible refine cut_at 82 rfl ?_))
         refine Cut.go ?_
         refine abs_list (fun W => ∃ Az cz xs', LyK w W x gq q (s1, q.log.length, sc) (.slice Az xs'.length cz) xs' ∧ xs'.map RecV.s = recs ++ comS q x.m ∧ ∀ y ∈ xs', y.fs = (none, 0, 0)) ⟨Av, cv, xs, H6.out.1, by rw [HC.out, List.append_nil]; exact HX.out.1, HX.out.2.1⟩ ?_
       all_goals
         clear H6 HC HCR
         rintro w8 ⟨Az, cz, xs', hK8, hxm, hxf⟩
         have hB8 := HB.out.below hK8.1
         have HXS := Lib.hid (And.intro hxm hxf)
         have H8 := Lib.hid (And.intro hK8 hB8)
         clear hB8 hxm hxf
         have f3 : w8.cell? ⟨w.heap.size + 1, 3, none⟩ = some (.int .i64 x.m.stream) := hK8.2.1.cell 3
         have f4 : w8.cell? ⟨w.heap.size + 1, 4, none⟩ = some (.int .i64 x.m.epoch) := hK8.2.1.cell 4
         clear hK8
         go_wp2_with fail
         refine (lgrant_any b mm n HK.out.2.2.1 gr G x.m.stream x.m.epoch now HK.out.1 (by have := HK.out.2.2.2.1; omega) w8 H8.out.2).mono ?_
         rintro e w9 ⟨rfl, hB9, hg9⟩
         have hK9 : Kept w8 w9 (some mm) none := Kept.ofGrown hg9
         have hM9 := hK9.blk H8.out.1.2.1 (fun e => H8.out.2.notBlk H8.out.1.2.1 (Option.some.inj e)) (by simp)
         have hO9 := hK9.blk H8.out.1.2.2.1 (fun e => H8.out.2.notBlk H8.out.1.2.2.1 (Option.some.inj e)) (by simp)
         have hQ9 := hK9.blk H8.out.1.2.2.2.2.1 (fun e => H8.out.2.notBlk H8.out.1.2.2.2.2.1 (Option.some.inj e)) (by simp)
         have hR9 := H8.out.1.2.2.2.1.turned H8.out.2 hK9
         have H9 := Lib.hid (And.intro hM9 (And.intro hO9 (And.intro hQ9 (And.intro hR9 (And.intro hB9 ((Kept.ofBelow H8.out.1.1 (some mm) none).trans hK9))))))
         clear hM9 hO9 hQ9 hR9 hB9 hg9 hK9 H8 f3 f4
         have f4 : w9.cell? ⟨w.heap.size + 1, 4, none⟩ = some (.int .i64 x.m.epoch) := H9.out.1.cell 4
         go_wp2_with ((with_reducible refine at_list ?_); first | refine wpList_load_blk rfl 43 _ rfl _ rfl _ _ _ (H9.out.1) Try.underlying43 rfl mail_info ?_)
         refine (back_any x 5 x.m.epoch w9).mono ?_
         rintro e w10 ⟨rfl, hb10⟩
         have H10 := Lib.hid hb10
         clear hb10 f4
         go_wp2_with ((with_reducible refine at_list ?_); first | (refine wpList_store_own rfl 43 _ _ rfl _ (mailv (backV x.m 5 x.m.epoch)) rfl rfl _ _ (Blk.new w10 43 (mailv backV0)) mail_info rfl (mail_one _) ?_; intro w11 B11 g11))
         have hb11 := below_new g11
         have h11 : PrS w9 w10.heap.size 43 (mailv (backV x.m 5 x.m.epoch)) (none, 0, 0) [] w11.drew := PrS.keep ⟨below_trans H10.out hb11 H10.out.size, B11, LogAt.nil, H10.out.size, by simp⟩ (Below.refl _ _).drew
         have H11 := Lib.hid h11
         clear hb11 B11 g11 h11 H10
         have FB : ∀ W, Below w9.heap.size w9 W → W.cell? ⟨gq, 2, none⟩ = some (.slice s1 q.log.length sc) ∧ W.cell? ⟨w.heap.size + 1, 8, none⟩ = some (.int .i64 x.m.stamp) ∧ W.cell? ⟨w.heap.size + 1 + 1, 0, none⟩ = some (.slice Az xs'.length cz) := fun W h => ⟨(H9.out.2.2.1.keep h).cell 2, (H9.out.1.keep h).cell 8, (H9.out.2.1.keep h).cell 0⟩
         refine wp_region_p ([(0, true), (1, true), (2, true), (3, true), (4, true), (5, true), (6, false), (7, true), (8, false)]) (fun w' => Below w9.heap.size w9 w') (by kernel_rfl) rfl (by kernel_rfl) (by kernel_rfl) (H11.out.1) rfl ?_
         intro KP RP TP hKP hTP hTP'
         simp only [List.append_eq, List.cons_append, List.nil_append, pick, nth]
         generalize w11.drew = wd at *
         generalize w10.heap.size = g at *
         go_wp2_with (first
           | (apply SeqP.skip; rfl; simp only [Act.put, List.setIfInBounds_toArray, List.set_cons_zero, List.set_cons_succ])
           | (apply SeqP.call; rfl; rfl; (intro w2 hw; have hw := hTP _ hw; ((obtain ⟨q2, q8, q0⟩ := FB _ hw)); go_simp; exact ⟨rfl, rfl⟩); (intro w2 hw; have hw := hTP _ hw; ((obtain ⟨q2, q8, q0⟩ := FB _ hw)); (first | fail)); simp only [Act.put, List.setIfInBounds_toArray, List.set_cons_zero, List.set_cons_succ])
           | (apply SeqP.pure; rfl; (intro w2 hw; have hw := hTP _ hw; ((obtain ⟨q2, q8, q0⟩ := FB _ hw)); go_simp; with_reducible rfl); simp only [Act.put, List.setIfInBounds_toArray, List.set_cons_zero, List.set_cons_succ])
           | (apply SeqP.split; rfl; rfl; all_goals (intro hc; simp only [hc]; try simp only [beq_iff_eq, decide_eq_true_eq, beq_eq_false_iff_ne, decide_eq_false_iff_not, bne_iff_ne, ne_eq, Bool.not_eq_true', Bool.not_eq_false', Int.not_le, Int.not_lt, bne_eq_false_iff_eq, Bool.or_eq_true, Bool.and_eq_true, Bool.or_eq_false_iff] at hc)))
         have h12 := H11.out.set 7 (.int .i64 (q.log.length : Int))
         have h13 := h12.set 8 (.int .i64 x.m.stamp)
         have HP := Lib.hid (And.intro h12 h13)
         have c7 : wd.cell? ⟨g, 7, none⟩ = some (.int .i64 0) := H11.out.2.1.cell 7
         have z7 : wd.frozen? ⟨g, 7, none⟩ = false := H11.out.2.1.frozen 7
         have c8 : wd.cell? ⟨g, 8, none⟩ = some (.int .i64 0) := H11.out.2.1.cell 8
         have z8 : wd.frozen? ⟨g, 8, none⟩ = false := H11.out.2.1.frozen 8
         clear h12 h13 H11
         apply SeqP.eff
         · rfl
         intro KE hKE
         go_wp2_with fail
         refine hKE _ _ (hTP' _ HP.out.1.1) ?_
         clear hKE KE
         go_wp2_with (first
           | (apply SeqP.skip; rfl; simp only [Act.put, List.setIfInBounds_toArray, List.set_cons_zero, List.set_cons_succ])
           | (apply SeqP.call; rfl; rfl; (intro w2 hw; have hw := hTP _ hw; (skip); go_simp; exact ⟨rfl, rfl⟩); (intro w2 hw; have hw := hTP _ hw; (skip); (first | fail)); simp only [Act.put, List.setIfInBounds_toArray, List.set_cons_zero, List.set_cons_succ])
           | (apply SeqP.pure; rfl; (intro w2 hw; have hw := hTP _ hw; (skip); go_simp; with_reducible rfl); simp only [Act.put, List.setIfInBounds_toArray, List.set_cons_zero, List.set_cons_succ])
           | (apply SeqP.split; rfl; rfl; all_goals (intro hc; simp only [hc]; try simp only [beq_iff_eq, decide_eq_true_eq, beq_eq_false_iff_ne, decide_eq_false_iff_not, bne_iff_ne, ne_eq, Bool.not_eq_true', Bool.not_eq_false', Int.not_le, Int.not_lt, bne_eq_false_iff_eq, Bool.or_eq_true, Bool.and_eq_true, Bool.or_eq_false_iff] at hc)))
         apply SeqP.eff
         · rfl
         intro KE hKE
         go_wp2_with fail
         refine hKE _ _ (hTP' _ HP.out.2.1) ?_
         clear hKE KE
         go_wp2_with (first
           | (apply SeqP.skip; rfl; simp only [Act.put, List.setIfInBounds_toArray, List.set_cons_zero, List.set_cons_succ])
           | (apply SeqP.call; rfl; rfl; (intro w2 hw; have hw := hTP _ hw; (skip); go_simp; exact ⟨rfl, rfl⟩); (intro w2 hw; have hw := hTP _ hw; (skip); (first | fail)); simp only [Act.put, List.setIfInBounds_toArray, List.set_cons_zero, List.set_cons_succ])
           | (apply SeqP.pure; rfl; (intro w2 hw; have hw := hTP _ hw; (skip); go_simp; with_reducible rfl); simp only [Act.put, List.setIfInBounds_toArray, List.set_cons_zero, List.set_cons_succ])
           | (apply SeqP.split; rfl; rfl; all_goals (intro hc; simp only [hc]; try simp only [beq_iff_eq, decide_eq_true_eq, beq_eq_false_iff_ne, decide_eq_false_iff_not, bne_iff_ne, ne_eq, Bool.not_eq_true', Bool.not_eq_false', Int.not_le, Int.not_lt, bne_eq_false_iff_eq, Bool.or_eq_true, Bool.and_eq_true, Bool.or_eq_false_iff] at hc)))
         apply SeqP.nil
         refine hKP _ _ (hTP' _ (HP.out.2.1)) ?_
         clear hKP hTP hTP'
         have hcs : ((mailv (backV x.m 5 x.m.epoch)).set 7 (.int .i64 (q.log.length : Int))).set 8 (.int .i64 x.m.stamp) = mailv (ackV q x.m) := rfl
         have h14 := HP.out.2
         rw [hcs] at h14
         obtain ⟨av, hav⟩ : ∃ av, ackV q x.m = av := ⟨_, rfl⟩
         have HAV := Lib.hid (show av.m = ackM q x.m ∧ av.o = (0, 0, 0, 0, 0) ∧ av.an = (0, 0, 0) ∧ av.es = (none, 0, 0) ∧ av.m.ents = [] from by rw [← hav]; exact ⟨rfl, rfl, rfl, rfl, rfl⟩)
         rw [hav] at h14
         clear HP hcs c7 z7 c8 z8 hav
         generalize ((wd.setCell ⟨g, 7, none⟩ (.int .i64 (q.log.length : Int))).setCell ⟨g, 8, none⟩ (.int .i64 x.m.stamp)) = wy at h14 ⊢
         have H15 := Lib.hid (h14.keep (Below.refl _ _).drew)
         clear h14
         go_wp2_with fail
         refine wp_region_p ([(0, true), (1, true), (3, true), (2, false), (4, true)]) (fun w' => Below w9.heap.size w9 w' ∧ Blk w' g 43 (mailv av)) (by kernel_rfl) rfl (by kernel_rfl) (by kernel_rfl) (⟨H15.out.1, H15.out.2.1⟩) rfl ?_
         intro KP RP TP hKP hTP hTP'
         simp only [List.append_eq, List.cons_append, List.nil_append, pick, nth]
         generalize wy.drew = wz at *
         go_wp2_with (first
           | (apply SeqP.skip; rfl; simp only [Act.put, List.setIfInBounds_toArray, List.set_cons_zero, List.set_cons_succ])
           | (apply SeqP.pure; rfl; (intro w2 hw; have hw := hTP _ hw; exact exec_load_blk 43 _ rfl _ rfl _ _ (hw.2) _ Try.underlying43 rfl mail_info); simp only [Act.put, List.setIfInBounds_toArray, List.set_cons_zero, List.set_cons_succ])
           | (apply SeqP.call; rfl; rfl; (intro w2 hw; have hw := hTP _ hw; ((obtain ⟨q2, q8, q0⟩ := FB _ hw.1)); go_simp; exact ⟨rfl, rfl⟩); (intro w2 hw; have hw := hTP _ hw; ((obtain ⟨q2, q8, q0⟩ := FB _ hw.1)); (first | fail)); simp only [Act.put, List.setIfInBounds_toArray, List.set_cons_zero, List.set_cons_succ])
           | (apply SeqP.pure; rfl; (intro w2 hw; have hw := hTP _ hw; ((obtain ⟨q2, q8, q0⟩ := FB _ hw.1)); go_simp; with_reducible rfl); simp only [Act.put, List.setIfInBounds_toArray, List.set_cons_zero, List.set_cons_succ])
           | (apply SeqP.split; rfl; rfl; all_goals (intro hc; simp only [hc]; try simp only [beq_iff_eq, decide_eq_true_eq, beq_eq_false_iff_ne, decide_eq_false_iff_not, bne_iff_ne, ne_eq, Bool.not_eq_true', Bool.not_eq_false', Int.not_le, Int.not_lt, bne_eq_false_iff_eq, Bool.or_eq_true, Bool.and_eq_true, Bool.or_eq_false_iff] at hc)))
         have hy0 : LogAt wz wz.heap.size av.es av.m.ents := by rw [HAV.out.2.2.2.1, HAV.out.2.2.2.2]; exact LogAt.nil
         have ha := H15.out.1.alloc H15.out.1.size (.cells (mailv av).toArray 43)
         have hml := mails_lit wz av hy0
         have hrr := (H9.out.2.2.2.1.keep ha).rcs
         have HF := Lib.hid (And.intro ha (And.intro hml (And.intro hrr (H15.out.2.1.alloc (.cells (mailv av).toArray 43)))))
         clear hy0 ha hml hrr
         unfold mailv at HF
         apply SeqP.eff
         · rfl
         intro KE hKE
         simp only [mailv]
         go_wp2_with fail
         refine hKE _ _ (hTP' _ ⟨HF.out.1, HF.out.2.2.2⟩) ?_
         clear hKE KE
         go_wp2_with (first
           | (apply SeqP.skip; rfl; simp only [Act.put, List.setIfInBounds_toArray, List.set_cons_zero, List.set_cons_succ])
           | (apply SeqP.call; rfl; rfl; (intro w2 hw; have hw := hTP _ hw; ((obtain ⟨q2, q8, q0⟩ := FB _ hw.1)); go_simp; exact ⟨rfl, rfl⟩); (intro w2 hw; have hw := hTP _ hw; ((obtain ⟨q2, q8, q0⟩ := FB _ hw.1)); (first | fail)); simp only [Act.put, List.setIfInBounds_toArray, List.set_cons_zero, List.set_cons_succ])
           | (apply SeqP.pure; rfl; (intro w2 hw; have hw := hTP _ hw; ((obtain ⟨q2, q8, q0⟩ := FB _ hw.1)); go_simp; with_reducible rfl); simp only [Act.put, List.setIfInBounds_toArray, List.set_cons_zero, List.set_cons_succ])
           | (apply SeqP.split; rfl; rfl; all_goals (intro hc; simp only [hc]; try simp only [beq_iff_eq, decide_eq_true_eq, beq_eq_false_iff_ne, decide_eq_false_iff_not, bne_iff_ne, ne_eq, Bool.not_eq_true', Bool.not_eq_false', Int.not_le, Int.not_lt, bne_eq_false_iff_eq, Bool.or_eq_true, Bool.and_eq_true, Bool.or_eq_false_iff] at hc)))
         apply SeqP.nil
         refine hKP _ _ (hTP' _ ⟨HF.out.1, HF.out.2.2.2⟩) ?_
         clear hKP hTP hTP'
         go_wp2_with fail
         go_ret2
         rw [HS.out]
         exact ⟨⟨Az, cz, _, 1, xs', [av], rfl, HF.out.2.2.1, HF.out.2.1, HXS.out.1, by rw [← HAV.out.1]; rfl, HXS.out.2, fun z hz => by rw [List.mem_singleton.1 hz]; exact ⟨HAV.out.2.1, HAV.out.2.2.1⟩⟩, H9.out.2.2.2.2.1.below HF.out.1, H9.out.2.2.2.2.2.trans (Kept.ofBelow HF.out.1 _ _)⟩

theorem rlay_any (r : RegS) (sl : SlcE) (b mm n : Nat) (gr : Int) (G : Int → Option (Int × Int)) (x : MailV) (now : Int) (w : World) (hB : Bk w b mm n gr G) (hn : n < maxLen) (h0 : 0 ≤ now) (hl : LogAt w w.heap.size sl r.log) (hx : LogAt w w.heap.size x.es x.m.ents) (hx2 : x.m.ents.length ≤ 1000) (hok : mailOk r x.m) :
    Calls Try.prog 38 #[.agg (rgv r sl).toArray, .pointer (some ⟨b, 0, none⟩), .agg (mailv x).toArray, .int .i64 now] w (TakeP (layS r x.m) b mm n gr G x.m now w) := by
  by_cases h : x.m.epoch < r.prom ∨ (r.view < x.m.epoch ∧ 0 < x.m.base) ∨ (r.log.length : Int) < x.m.base
  · exact rlay_stop r sl b mm n gr G x now w hB hn h0 hl hx hx2 hok h
  · exact rlay_go r sl b mm n gr G x now w hB hn h0 hl hx hx2 hok h
end Go.Proofs.Ytdphfhenjndkkaa

set_option linter.unusedSimpArgs false
set_option linter.unusedVariables false
set_option maxRecDepth 100000
namespace Go.Proofs.Ytdphfhenjndkkaa
open Go Go.RowKit Go.Sq Go.Wd Go.Arch Go.Im

theorem take_not {r : RegS} {may : Bool} {m : MailS} (h : ¬ mailOk r m) : takeS r may m = ⟨[], [], 0⟩ := if_neg h
theorem take_1 {r : RegS} {may : Bool} {m : MailS} (h : mailOk r m) (k : m.kind = 1) : takeS r may m = prepS r may m := by unfold takeS; rw [if_pos h, if_pos k]
theorem take_4 {r : RegS} {may : Bool} {m : MailS} (h : mailOk r m) (k : m.kind = 4) : takeS r may m = layS r m := by unfold takeS; rw [if_pos h, if_neg (by omega), if_pos k]
theorem take_9 {r : RegS} {may : Bool} {m : MailS} (h : mailOk r m) (k : m.kind = 9) : takeS r may m = ⟨[], [], 2⟩ := by unfold takeS; rw [if_pos h, if_neg (by omega), if_neg (by omega), if_pos k]
theorem take_else {r : RegS} {may : Bool} {m : MailS} (h1 : m.kind ≠ 1) (h4 : m.kind ≠ 4) (h9 : m.kind ≠ 9) : takeS r may m = ⟨[], [], 0⟩ := by
  unfold takeS
  rw [if_neg h1, if_neg h4, if_neg h9]
  split <;> rfl

set_option maxHeartbeats 16000000 in
theorem take_any (r : RegS) (sl : SlcE) (b mm n : Nat) (gr : Int) (G : Int → Option (Int × Int)) (x : MailV) (now : Int) (w : World) (hB : Bk w b mm n gr G) (hn : n < maxLen) (h0 : 0 ≤ now) (hl : LogAt w w.heap.size sl r.log) (hx : LogAt w w.heap.size x.es x.m.ents) (hx2 : x.m.ents.length ≤ 1000) :
    Calls Try.prog 14 #[.agg (rgv r sl).toArray, .pointer (some ⟨b, 0, none⟩), .agg (mailv x).toArray, .int .i64 now] w (TakeP (takeS r (mayL gr (G x.m.stream) x.m.epoch now) x.m) b mm n gr G x.m now w) := by
  have hI0 := RpI.new (x := x) hl
  have FC : ∀ W, RpI w W r sl x → W.cell? ⟨w.heap.size + 1, 0, none⟩ = some (.int .i64 x.m.kind) ∧ W.cell? ⟨w.heap.size + 1, 3, none⟩ = some (.int .i64 x.m.stream) ∧ W.cell? ⟨w.heap.size + 1, 4, none⟩ = some (.int .i64 x.m.epoch) ∧ W.cell? ⟨w.heap.size + 1, 6, none⟩ = some (.int .i64 x.m.base) := fun W h => ⟨h.2.2.1.cell 0, h.2.2.1.cell 3, h.2.2.1.cell 4, h.2.2.1.cell 6⟩
  have hck := check15_any r sl _ hI0.2.2.2
  have HI := Lib.hid (And.intro hI0 hck)
  have HB := Lib.hid hB
  have HK := Lib.hid (And.intro hn (And.intro h0 (And.intro hl (And.intro hx hx2))))
  clear hI0 hck hl hB hn hx hx2
  obtain ⟨may, hmay⟩ : ∃ may, mayL gr (G x.m.stream) x.m.epoch now = may := ⟨_, rfl⟩
  rw [hmay]
  have HM := Lib.hid hmay
  clear hmay
  cases hm : mayR r with
  | false =>
    have HS := Lib.hid (take_not (may := may) (m := x.m) (fun h => by rw [h.1] at hm; cases hm))
    rw [hm] at HI
    clear hm
    go_enter Try.func14, Try.ntmps14
    go_wp2_with ((with_reducible refine at_list ?_); first | refine wpList_load_blk rfl 37 _ rfl _ rfl _ _ _ (HI.out.1.2.1) Try.underlying37 rfl rg_info ?_)
    refine HI.out.2.mono ?_
    rintro e w1 ⟨rfl, hb⟩
    have H1 := Lib.hid (HI.out.1.keep hb)
    clear hb HI
    go_wp2_with fail
    go_ret2
    rw [HS.out]
    exact TakeP.pure rfl Answer.nothing HB.out H1.out.1
  | true =>
    rw [hm] at HI
    by_cases hok : mailOk r x.m
    case neg =>
      have HS := Lib.hid (take_not (may := may) hok)
      have hcs : x.m.stream < 0 ∨ (¬ x.m.stream < 0 ∧ 4 ≤ x.m.stream) ∨ (¬ x.m.stream < 0 ∧ ¬ 4 ≤ x.m.stream ∧ x.m.base < 0) ∨ (¬ x.m.stream < 0 ∧ ¬ 4 ≤ x.m.stream ∧ ¬ x.m.base < 0 ∧ x.m.epoch < 1) ∨ (¬ x.m.stream < 0 ∧ ¬ 4 ≤ x.m.stream ∧ ¬ x.m.base < 0 ∧ ¬ x.m.epoch < 1 ∧ 1048576 < x.m.epoch) := by
        have : ¬ (0 ≤ x.m.stream ∧ x.m.stream < 4 ∧ 0 ≤ x.m.base ∧ 1 ≤ x.m.epoch ∧ x.m.epoch ≤ 1048576) := fun h => hok ⟨hm, h⟩
        omega
      clear hok hm
      rcases hcs with c1 | ⟨c1, c2⟩ | ⟨c1, c2, c3⟩ | ⟨c1, c2, c3, c4⟩ | ⟨c1, c2, c3, c4, c5⟩
      all_goals
        go_enter Try.func14, Try.ntmps14
        go_wp2_with ((with_reducible refine at_list ?_); first | refine wpList_load_blk rfl 37 _ rfl _ rfl _ _ _ (HI.out.1.2.1) Try.underlying37 rfl rg_info ?_)
        refine HI.out.2.mono ?_
        rintro e w1 ⟨rfl, hb⟩
        have H1 := Lib.hid (HI.out.1.keep hb)
        clear hb HI
        obtain ⟨f0, f3, f4, f6⟩ := FC _ H1.out
        go_wp2_with fail
        go_ret2
        rw [HS.out]
        exact TakeP.pure rfl Answer.nothing HB.out H1.out.1
    case pos =>
      have hok' := hok
      obtain ⟨-, c1, c2, c3, c4, c5⟩ := hok
      have HOK := Lib.hid hok'
      clear hok' hm
      have c2 : ¬ 4 ≤ x.m.stream := by omega
      have c1 : ¬ x.m.stream < 0 := by omega
      have c3 : ¬ x.m.base < 0 := by omega
      have c4 : ¬ x.m.epoch < 1 := by omega
      have c5 : ¬ 1048576 < x.m.epoch := by omega
      go_enter Try.func14, Try.ntmps14
      go_wp2_with ((with_reducible refine at_list ?_); first | refine wpList_load_blk rfl 37 _ rfl _ rfl _ _ _ (HI.out.1.2.1) Try.underlying37 rfl rg_info ?_)
      refine HI.out.2.mono ?_
      rintro e w1 ⟨rfl, hb⟩
      have h1 := HI.out.1.keep hb
      have hx1 := (HK.out.2.2.2.1.below h1.1).more h1.1.size
      have H1 := Lib.hid (And.intro h1 (And.intro hx1 (HB.out.below h1.1)))
      clear hb HI h1 hx1
      obtain ⟨f0, f3, f4, f6⟩ := FC _ H1.out.1
      have hkc : x.m.kind = 1 ∨ x.m.kind = 4 ∨ x.m.kind = 9 ∨ (x.m.kind ≠ 1 ∧ x.m.kind ≠ 4 ∧ x.m.kind ≠ 9) := by omega
      rcases hkc with hk | hk | hk | ⟨k1, k4, k9⟩
      · have HS := Lib.hid (take_1 (may := may) HOK.out hk)
        rw [hk] at f0
        clear hk
        go_wp2_with ((with_reducible refine at_list ?_); first | refine wpList_load_blk rfl 37 _ rfl _ rfl _ _ _ (H1.out.1.2.1) Try.underlying37 rfl rg_info ?_ | refine wpList_load_blk rfl 43 _ rfl _ rfl _ _ _ (H1.out.1.2.2.1) Try.underlying43 rfl mail_info ?_)
        have m64 : r.log.length ≤ 64 := ((okLog_iff _ _).1 ((mayR_iff r).1 HOK.out.1).2.1).1
        refine (prep_any r sl b mm n gr G x now w1 H1.out.2.2 HK.out.1 HK.out.2.1 H1.out.1.2.2.2 (by omega) HOK.out).mono ?_
        rw [HM.out]
        rintro e w2 ⟨hA, hB2, hK2⟩
        obtain ⟨A1, d1, A2, d2, xs, ys, rfl, hrest⟩ := hA
        have H2 := Lib.hid (And.intro hrest (And.intro hB2 ((Kept.ofBelow H1.out.1.1 (some mm) none).trans hK2)))
        clear hrest hB2 hK2 H1 f0 f3 f4 f6 c1 c2 c3 c4 c5 m64
        go_wp2_with fail
        go_ret2
        rw [HS.out]
        exact ⟨⟨A1, d1, A2, d2, xs, ys, rfl, H2.out.1⟩, H2.out.2⟩
      · have HS := Lib.hid (take_4 (may := may) HOK.out hk)
        rw [hk] at f0
        clear hk
        go_wp2_with ((with_reducible refine at_list ?_); first | refine wpList_load_blk rfl 37 _ rfl _ rfl _ _ _ (H1.out.1.2.1) Try.underlying37 rfl rg_info ?_ | refine wpList_load_blk rfl 43 _ rfl _ rfl _ _ _ (H1.out.1.2.2.1) Try.underlying43 rfl mail_info ?_)
        refine (rlay_any r sl b mm n gr G x now w1 H1.out.2.2 HK.out.1 HK.out.2.1 H1.out.1.2.2.2 H1.out.2.1 HK.out.2.2.2.2 HOK.out).mono ?_
        rintro e w2 ⟨hA, hB2, hK2⟩
        obtain ⟨A1, d1, A2, d2, xs, ys, rfl, hrest⟩ := hA
        have H2 := Lib.hid (And.intro hrest (And.intro hB2 ((Kept.ofBelow H1.out.1.1 (some mm) none).trans hK2)))
        clear hrest hB2 hK2 H1 f0 f3 f4 f6 c1 c2 c3 c4 c5
        go_wp2_with fail
        go_ret2
        rw [HS.out]
        exact ⟨⟨A1, d1, A2, d2, xs, ys, rfl, H2.out.1⟩, H2.out.2⟩
      · have HS := Lib.hid (take_9 (may := may) HOK.out hk)
        rw [hk] at f0
        clear hk
        go_wp2_with fail
        refine (lrelease_any b mm n HK.out.1 gr G x.m.stream x.m.epoch (wf_small (by have := HOK.out; unfold mailOk at this; omega)) w1 H1.out.2.2).mono ?_
        rintro e w2 ⟨rfl, hB2, hg2⟩
        have H2 := Lib.hid (And.intro hB2 ((Kept.ofBelow H1.out.1.1 (some mm) none).trans (Kept.ofGrown hg2)))
        clear hB2 hg2 H1 f0 f3 f4 f6 c1 c2 c3 c4 c5
        go_wp2_with fail
        go_ret2
        rw [HS.out]
        exact ⟨Answer.nothing, H2.out⟩
      · have HS := Lib.hid (take_else (r := r) (may := may) k1 k4 k9)
        have e1 : (x.m.kind == 1) = false := by simpa using k1
        have e4 : (x.m.kind == 4) = false := by simpa using k4
        have e9 : (x.m.kind == 9) = false := by simpa using k9
        clear k1 k4 k9
        go_wp2_with fail
        go_ret2
        rw [HS.out]
        exact TakeP.pure rfl Answer.nothing HB.out H1.out.1.1
end Go.Proofs.Ytdphfhenjndkkaa

set_option linter.unusedSimpArgs false
set_option linter.unusedVariables false
set_option maxRecDepth 100000
namespace Go.Proofs.Ytdphfhenjndkkaa
open Go Go.RowKit Go.Sq Go.Wd Go.Arch

def appliedS (r : RegS) (S : List RecS) : RegS := S.foldl (fun r x => (applyR r x).getD r) r
theorem appliedS_next {r : RegS} {S : List RecS} {j : Nat} {x : RecS} (hx : S[j]? = some x) : appliedS r (S.take (j + 1)) = (applyR (appliedS r (S.take j)) x).getD (appliedS r (S.take j)) := by
  unfold appliedS
  rw [List.take_add_one, hx]
  show List.foldl _ _ (S.take j ++ [x]) = _
  rw [List.foldl_append]
  rfl
theorem Rcs.at8 {w : World} {B : Nat} {A : Option Addr} {l : List RecV} (h : Rcs w B A l) {k : Nat} (hk : k < l.length) : ∃ b off x, A = some ⟨b, off, none⟩ ∧ Hid (l[k]? = some x) ∧ (∀ w', Below B w w' → RecAt w' b (off + k * 8) x) ∧ Hid (LogAt w B x.es x.ents) := by
  obtain ⟨b, off, e, ha, he, _, hc⟩ := h.1.at_ hk
  refine ⟨b, off, e, ha, he, fun w' hb => ?_, Lib.hid (h.2 e (List.mem_of_getElem? he.out))⟩
  have h8 : (8 : Nat) = recE.size := rfl
  exact ⟨hc w' hb 0 (by decide), hc w' hb 1 (by decide), hc w' hb 2 (by decide), hc w' hb 3 (by decide), hc w' hb 4 (by decide), hc w' hb 5 (by decide), hc w' hb 6 (by decide), hc w' hb 7 (by decide)⟩
theorem regR_get {r q : RegS} {b : Bool} {x : RecS} (h : regR (applyR r x) = (q, b)) : (applyR r x).getD r = if b = true then q else r := by
  cases hA : applyR r x with
  | none => rw [hA] at h; cases h; rfl
  | some a => rw [hA] at h; cases h; rfl
theorem apply_tell {r q : RegS} {b : Bool} (sl : SlcE) (x : RecV) (w : World) (h : regR (applyR r x.s) = (q, b)) (hl : LogAt w w.heap.size sl r.log) (hx : LogAt w w.heap.size x.es x.ents) (hx2 : x.ents.length ≤ 1000) :
    Calls Try.prog 17 #[.agg (rgv r sl).toArray, .agg (rcv x).toArray] w fun e w' => ∃ s : SlcE, e = .returned (.tuple #[.agg (rgv q s).toArray, .bool b]) ∧ LogAt w' w'.heap.size s q.log ∧ Below w.heap.size w w' := by
  refine (apply_any r sl x w hl hx hx2).mono ?_
  rintro e w1 ⟨s, he, hL, hb⟩
  rw [h] at he hL
  exact ⟨s, he, hL.1, hb⟩

set_option maxHeartbeats 8000000 in
theorem applied_any (r0 : RegS) (sl : SlcE) (l : List RecV) (A : Option Addr) (c : Nat) (w : World) (hr : LogAt w w.heap.size sl r0.log) (hl : Rcs w w.heap.size A l) (hn : l.length ≤ 9223372036854775807) (hn2 : ∀ x ∈ l, x.ents.length ≤ 1000) :
    Calls Try.prog 19 #[.agg (rgv r0 sl).toArray, .slice A l.length c] w fun e w' => ∃ s : SlcE, e = .returned (.agg (rgv (appliedS r0 (l.map RecV.s)) s).toArray) ∧ LogAt w' w'.heap.size s (appliedS r0 (l.map RecV.s)).log ∧ Below w.heap.size w w' := by
  have HE := Lib.hid (And.intro hl hn2)
  have hw0 : Below w.heap.size w ((w.alloc (.cells (rgv r0 sl).toArray 37)).alloc (.cells (rgv reg0 (none, 0, 0)).toArray 37)) := ((Below.refl _ _).alloc (Nat.le_refl _) _).alloc (by simp) _
  have B1 : Blk ((w.alloc (.cells (rgv r0 sl).toArray 37)).alloc (.cells (rgv reg0 (none, 0, 0)).toArray 37)) w.heap.size 37 (rgv r0 sl) := (Blk.new w _ _).alloc _
  have B0 : Blk ((w.alloc (.cells (rgv r0 sl).toArray 37)).alloc (.cells (rgv reg0 (none, 0, 0)).toArray 37)) (w.heap.size + 1) 37 (rgv reg0 (none, 0, 0)) := Blk.newAt _ _ _ (by simp)
  have HH := Lib.hid (And.intro hw0 (And.intro B0 (And.intro B1 (hr.keep hw0))))
  clear hw0 B0 B1 hl hn2 hr
  go_enter Try.func19, Try.ntmps19
  go_wp2_with fail
  go_loopg [5] l.length (fun q i wr => ∃ (j : Nat) (s : SlcE), q = l.length - j ∧ j ≤ l.length ∧ i = .int .i64 j ∧ Below w.heap.size w wr ∧ Blk wr (w.heap.size + 1) 37 (rgv reg0 (none, 0, 0)) ∧ Blk wr w.heap.size 37 (rgv (appliedS r0 ((l.map RecV.s).take j)) s) ∧ LogAt wr wr.heap.size s (appliedS r0 ((l.map RecV.s).take j)).log)
  case atStart => exact ⟨0, sl, rfl, by omega, rfl, HH.out.1, HH.out.2.1, HH.out.2.2.1, HH.out.2.2.2⟩
  case round =>
    clear HH
    obtain ⟨j, s, hq, hj, rfl, hB, B0, B1, hS⟩ := hrel
    have AA : Aside (gk = l.length - j) := hq
    clear hq
    obtain ⟨wq, rfl⟩ : ∃ z, z = wr := ⟨_, rfl⟩
    by_cases hlt : j < l.length
    · obtain ⟨b1, o1, x, rfl, hx, FA, HX⟩ := HE.out.1.at8 hlt
      have hx2 := HE.out.2 x (List.mem_of_getElem? hx.out)
      obtain ⟨⟨q, b⟩, hqb⟩ : ∃ z, regR (applyR (appliedS r0 ((l.map RecV.s).take j)) x.s) = z := ⟨_, rfl⟩
      have HN := Lib.hid (appliedS_next (r := r0) (S := l.map RecV.s) (j := j) (x := x.s) (by rw [List.getElem?_map, hx.out]; rfl))
      generalize appliedS r0 ((l.map RecV.s).take j) = r at B1 hS hqb HN ⊢
      have HQ := Lib.hid hqb
      clear hqb
      have HS := Lib.hid hS
      clear hS
      have hz := hB.size
      go_wp2_with fail
      refine wp_region_t (.quiet 0 (.quiet 1 (.quiet 2 (.quiet 3 (.quiet 4 (.two 5 9 (.quiet 6 (.quiet 7 (.quiet 8 (.one 9 (.one 10 (.quiet 11 .done)))))) (.one 5 (.quiet 6 (.quiet 7 (.quiet 8 (.one 10 (.quiet 11 .done)))))))))))) (fun w' => Below wq.heap.size wq w') (by kernel_rfl) (by kernel_rfl) (by kernel_rfl) (by kernel_rfl) ((Below.refl _ _).drew) rfl ?_
      intro KP RP TP hKP hTP hTP'
      simp only [Sch.fill, nth]
      apply merge2 (Inv := fun g s w' => Below wq.heap.size wq w' ∧ wq.heap.size ≤ g ∧ Blk w' g 37 (rgv q s) ∧ LogAt w' w'.heap.size s (q).log) (K := KP)
      · intro HK
        have hQ : Below wq.heap.size wq wq.drew := (Below.refl _ _).drew
        generalize wq.drew = wc at hQ ⊢
        go_wp2_with (first
          | (apply SeqT.skip; rfl; simp only [Act.put, List.setIfInBounds_toArray, List.set_cons_zero, List.set_cons_succ])
          | (apply SeqT.pure; rfl; (intro w9 hw9; have hw9 := hTP _ hw9; exact exec_load_blk 37 _ rfl _ rfl _ _ (B1.keep hw9) _ Try.underlying37 rfl rg_info); simp only [Act.put, List.setIfInBounds_toArray, List.set_cons_zero, List.set_cons_succ])
          | (apply SeqT.pure; rfl; (intro w9 hw9; have hw9 := hTP _ hw9; ((obtain ⟨q0, q1, q2, q3, q4, q5, q6, q7⟩ := FA _ (below_trans hB hw9 hz))); go_simp; with_reducible rfl); simp only [Act.put, List.setIfInBounds_toArray, List.set_cons_zero, List.set_cons_succ]))
        all_goals first | apply SeqT.two | apply SeqT.one
        all_goals first
          | (refine EffT.is (some 20) rfl ?_
             apply EffT.go
             · rfl
             intro KE hKE
             go_wp2_with fail
             refine (apply_tell s x wc HQ.out (HS.out.keep hQ) (HX.out.keep (below_trans hB hQ hz)) (by omega)).mono ?_
             rintro e wd ⟨sr, rfl, hR0, hb⟩
             have hQ' := below_trans hQ hb hQ.size
             refine hKE _ _ (hTP' _ hQ') ?_
             clear hKE KE hQ
             try replace hZ := hZ.keep hb
             clear hb
             try clear wc
             obtain ⟨wc, rfl⟩ : ∃ z, z = wd := ⟨_, rfl⟩
             have hR := hR0
             clear hR0
             have hQ := hQ'
             clear hQ'
             go_wp2_with (first
               | (apply SeqT.skip; rfl; simp only [Act.put, List.setIfInBounds_toArray, List.set_cons_zero, List.set_cons_succ])
               | (apply SeqT.pure; rfl; (intro w9 hw9; have hw9 := hTP _ hw9; exact exec_load_blk 37 _ rfl _ rfl _ _ (B1.keep hw9) _ Try.underlying37 rfl rg_info); simp only [Act.put, List.setIfInBounds_toArray, List.set_cons_zero, List.set_cons_succ])
               | (apply SeqT.pure; rfl; (intro w9 hw9; have hw9 := hTP _ hw9; ((obtain ⟨q0, q1, q2, q3, q4, q5, q6, q7⟩ := FA _ (below_trans hB hw9 hz))); go_simp; with_reducible rfl); simp only [Act.put, List.setIfInBounds_toArray, List.set_cons_zero, List.set_cons_succ])))
          | (refine EffT.is (some 6) rfl ?_
             apply EffT.go
             · rfl
             intro KE hKE
             go_wp2_with fail
             refine eff_abs hKE (fun W' => Below wc.heap.size wc W' ∧ Blk W' wc.heap.size 37 (rgv reg0 (none, 0, 0))) ⟨(Below.refl _ _).alloc (Nat.le_refl _) _, Blk.new wc 37 (rgv reg0 (none, 0, 0))⟩ (fun W' h => hTP' _ (below_trans hQ h.1 hQ.size)) ?_
             rintro wd ⟨hb, hZ0⟩
             have hQ' := below_trans hQ hb hQ.size
             have hgz := hQ.size
             generalize wc.heap.size = gz at hZ0 hgz ⊢
             clear hKE KE hQ
             try replace hR := hR.keep hb
             clear hb
             try clear wc
             obtain ⟨wc, rfl⟩ : ∃ z, z = wd := ⟨_, rfl⟩
             have hZ := hZ0
             clear hZ0
             have hQ := hQ'
             clear hQ'
             go_wp2_with (first
               | (apply SeqT.skip; rfl; simp only [Act.put, List.setIfInBounds_toArray, List.set_cons_zero, List.set_cons_succ])
               | (apply SeqT.pure; rfl; (intro w9 hw9; have hw9 := hTP _ hw9; exact exec_load_blk 37 _ rfl _ rfl _ _ (B1.keep hw9) _ Try.underlying37 rfl rg_info); simp only [Act.put, List.setIfInBounds_toArray, List.set_cons_zero, List.set_cons_succ])
               | (apply SeqT.pure; rfl; (intro w9 hw9; have hw9 := hTP _ hw9; ((obtain ⟨q0, q1, q2, q3, q4, q5, q6, q7⟩ := FA _ (below_trans hB hw9 hz))); go_simp; with_reducible rfl); simp only [Act.put, List.setIfInBounds_toArray, List.set_cons_zero, List.set_cons_succ])))
        all_goals first | apply SeqT.two | apply SeqT.one
        all_goals first
          | (refine EffT.is (some 20) rfl ?_
             apply EffT.go
             · rfl
             intro KE hKE
             go_wp2_with fail
             refine (apply_tell s x wc HQ.out (HS.out.keep hQ) (HX.out.keep (below_trans hB hQ hz)) (by omega)).mono ?_
             rintro e wd ⟨sr, rfl, hR0, hb⟩
             have hQ' := below_trans hQ hb hQ.size
             refine hKE _ _ (hTP' _ hQ') ?_
             clear hKE KE hQ
             try replace hZ := hZ.keep hb
             clear hb
             try clear wc
             obtain ⟨wc, rfl⟩ : ∃ z, z = wd := ⟨_, rfl⟩
             have hR := hR0
             clear hR0
             have hQ := hQ'
             clear hQ'
             go_wp2_with (first
               | (apply SeqT.skip; rfl; simp only [Act.put, List.setIfInBounds_toArray, List.set_cons_zero, List.set_cons_succ])
               | (apply SeqT.pure; rfl; (intro w9 hw9; have hw9 := hTP _ hw9; exact exec_load_blk 37 _ rfl _ rfl _ _ (B1.keep hw9) _ Try.underlying37 rfl rg_info); simp only [Act.put, List.setIfInBounds_toArray, List.set_cons_zero, List.set_cons_succ])
               | (apply SeqT.pure; rfl; (intro w9 hw9; have hw9 := hTP _ hw9; ((obtain ⟨q0, q1, q2, q3, q4, q5, q6, q7⟩ := FA _ (below_trans hB hw9 hz))); go_simp; with_reducible rfl); simp only [Act.put, List.setIfInBounds_toArray, List.set_cons_zero, List.set_cons_succ])))
          | (refine EffT.is (some 6) rfl ?_
             apply EffT.go
             · rfl
             intro KE hKE
             go_wp2_with fail
             refine eff_abs hKE (fun W' => Below wc.heap.size wc W' ∧ Blk W' wc.heap.size 37 (rgv reg0 (none, 0, 0))) ⟨(Below.refl _ _).alloc (Nat.le_refl _) _, Blk.new wc 37 (rgv reg0 (none, 0, 0))⟩ (fun W' h => hTP' _ (below_trans hQ h.1 hQ.size)) ?_
             rintro wd ⟨hb, hZ0⟩
             have hQ' := below_trans hQ hb hQ.size
             have hgz := hQ.size
             generalize wc.heap.size = gz at hZ0 hgz ⊢
             clear hKE KE hQ
             try replace hR := hR.keep hb
             clear hb
             try clear wc
             obtain ⟨wc, rfl⟩ : ∃ z, z = wd := ⟨_, rfl⟩
             have hZ := hZ0
             clear hZ0
             have hQ := hQ'
             clear hQ'
             go_wp2_with (first
               | (apply SeqT.skip; rfl; simp only [Act.put, List.setIfInBounds_toArray, List.set_cons_zero, List.set_cons_succ])
               | (apply SeqT.pure; rfl; (intro w9 hw9; have hw9 := hTP _ hw9; exact exec_load_blk 37 _ rfl _ rfl _ _ (B1.keep hw9) _ Try.underlying37 rfl rg_info); simp only [Act.put, List.setIfInBounds_toArray, List.set_cons_zero, List.set_cons_succ])
               | (apply SeqT.pure; rfl; (intro w9 hw9; have hw9 := hTP _ hw9; ((obtain ⟨q0, q1, q2, q3, q4, q5, q6, q7⟩ := FA _ (below_trans hB hw9 hz))); go_simp; with_reducible rfl); simp only [Act.put, List.setIfInBounds_toArray, List.set_cons_zero, List.set_cons_succ])))
        all_goals first | apply SeqT.two | apply SeqT.one
        all_goals
          refine EffT.is none rfl ?_
          apply EffT.go
          · rfl
          intro KE hKE
          refine wp_store_own 37 _ _ rfl _ (rgv q sr) rfl rfl _ _ hZ rg_info rfl (rgv_one _ _) ?_
          intro wd B5 g5
          have hQ' := hQ.trans (below_grown g5 hgz hQ.size)
          have hR5 := hR.stored hZ (by simp [rgv]) g5
          refine hKE _ _ (hTP' _ hQ') ?_
          clear hKE KE
          go_wp2_with (first
            | (apply SeqT.skip; rfl; simp only [Act.put, List.setIfInBounds_toArray, List.set_cons_zero, List.set_cons_succ])
            | (apply SeqT.pure; rfl; (intro w9 hw9; have hw9 := hTP _ hw9; exact exec_load_blk 37 _ rfl _ rfl _ _ (B1.keep hw9) _ Try.underlying37 rfl rg_info); simp only [Act.put, List.setIfInBounds_toArray, List.set_cons_zero, List.set_cons_succ])
            | (apply SeqT.pure; rfl; (intro w9 hw9; have hw9 := hTP _ hw9; ((obtain ⟨q0, q1, q2, q3, q4, q5, q6, q7⟩ := FA _ (below_trans hB hw9 hz))); go_simp; with_reducible rfl); simp only [Act.put, List.setIfInBounds_toArray, List.set_cons_zero, List.set_cons_succ]))
          apply SeqT.done
          exact HK gz sr wd ⟨hQ', hgz, B5, hR5⟩
      intro g s2 w3 ⟨hb3, hge, B3, R3⟩
      refine hKP _ _ (hTP' _ hb3) ?_
      clear hKP hTP hTP'
      have hB3 := below_trans hB hb3 hz
      have C0 := B0.keep hb3
      have C1 := B1.keep hb3
      have HS3 := Lib.hid (HS.out.keep hb3)
      have HE2 := Lib.hid (regR_get HQ.out)
      have R3' := Lib.hid R3
      have l1 := C1.lt
      have hz3 := hB3.size
      clear HQ R3 B0 B1 HS hB hb3
      try clear wq
      cases b with
      | true =>
        go_wp2_with ((with_reducible refine at_list ?_); first | refine wpList_load_blk rfl 37 _ rfl _ rfl _ _ _ (B3) Try.underlying37 rfl rg_info ?_ | (refine wpList_store_own rfl 37 _ _ rfl _ (rgv q s2) rfl rfl _ _ (C1) rg_info rfl (rgv_one _ _) ?_; intro w4 D1 g4))
        have hB4 := hB3.trans (below_grown g4 (by omega) hz3)
        go_roundg (l.length - (j + 1))
        case measure => have hkk := AA.out; omega
        case rel =>
          refine ⟨j + 1, s2, rfl, by omega, by go_num, hB4, C0.grown g4 (fun e => by have := Option.some.inj e; omega), ?_, ?_⟩
          · rw [HN.out, HE2.out]; exact D1
          · rw [HN.out, HE2.out]; exact R3'.out.stored C1 (by simp [rgv]) g4
      | false =>
        go_wp2_with fail
        go_roundg (l.length - (j + 1))
        case measure => have hkk := AA.out; omega
        case rel =>
          refine ⟨j + 1, s, rfl, by omega, by go_num, hB3, C0, ?_, ?_⟩
          · rw [HN.out, HE2.out]; exact C1
          · rw [HN.out, HE2.out]; exact HS3.out
    · obtain rfl : j = l.length := by omega
      have htk : (l.map RecV.s).take l.length = l.map RecV.s := List.take_of_length_le (by rw [List.length_map]; omega)
      rw [htk] at B1 hS
      have l1 := B1.lt
      have hz := hB.size
      clear htk
      go_wp2_with ((with_reducible refine at_list ?_); first | refine wpList_load_blk rfl 37 _ rfl _ rfl _ _ _ (B1) Try.underlying37 rfl rg_info ?_ | (refine wpList_store_own rfl 37 _ _ rfl _ (rgv (appliedS r0 (l.map RecV.s)) s) rfl rfl _ _ (B0) rg_info rfl (rgv_one _ _) ?_; intro w4 D0 g4))
      have hB4 := hB.trans (below_grown g4 (by omega) hz)
      apply ret_of
      · exact results_blk rfl _ _ _ _ _ _ rfl D0 Try.underlying37 rfl rg_info
      · exact ⟨rfl, s, rfl, hS.stored B0 (by simp [rgv]) g4, hB4⟩
end Go.Proofs.Ytdphfhenjndkkaa
