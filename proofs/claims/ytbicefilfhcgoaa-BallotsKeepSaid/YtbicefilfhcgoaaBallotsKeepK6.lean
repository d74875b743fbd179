/-
  The walks over the document's New and Add of a ballot.
  The walk over the document's Chosen of a ballot.
  The walk over Mail of a ballot.
  The walk over chapter 18's 'lives'.
  Loads of a piece of mail from amid a slice; the walks over chapter 18's 'beyond' and 'entry'.
  The walks over chapter 15's 'behind' and 'beyond'.
-/
import Derived.Deep.LoopGhost
import Derived.Test.YtbicefilfhcgoaaBallotsKeepK1
import Derived.Test.YtbicefilfhcgoaaBallotsKeepK2
import Derived.Test.YtbicefilfhcgoaaBallotsKeepK3
import Derived.Test.YtbicefilfhcgoaaBallotsKeepK4
import Derived.Test.YtbicefilfhcgoaaBallotsKeepK5
set_option linter.unusedSimpArgs false
set_option linter.unusedVariables false
set_option maxRecDepth 100000
namespace Go.Proofs.Ytbicefilfhcgoaa
open Go Go.RowKit Go.Sq Go.Wd Go.Arch

def RNewPost (b : BegS) (own : RegS) (s : SlcE) (w : World) (e : Ending) (w' : World) : Prop :=
  (newOk b own ∧ ∃ g v, e = .returned (.tuple #[.pointer (some ⟨g, 0, none⟩), .int .i64 0]) ∧ w.heap.size ≤ g ∧ RefAt w' w.heap.size g b [⟨b.site, own, s⟩] v ∧ Below w.heap.size w w') ∨
  (¬ newOk b own ∧ e = .returned (.tuple #[.pointer none, .int .i64 2]) ∧ Below w.heap.size w w')

set_option maxHeartbeats 8000000 in
theorem rnew_any (b : BegS) (own : RegS) (s : SlcE) (w : World) (hl : LogAt w w.heap.size s own.log) :
    Calls Try.prog 39 #[.int .i64 b.stream, .int .i64 b.epoch, .int .i64 b.site, .int .i64 b.n, .int .i64 b.stamp, .agg (rgv own s).toArray] w fun e w' => RNewPost b own s w e w' := by
  have hz : Below w.heap.size w (w.alloc (.cells (rgv own s).toArray 24)) := (Below.refl _ _).alloc (Nat.le_refl _) _
  have BR := Blk.new w 24 (rgv own s)
  have HL := Lib.hid (And.intro (hl.keep hz) hz)
  have FC : ∀ w', Below w.heap.size w w' ∧ Blk w' w.heap.size 24 (rgv own s) → w'.cell? ⟨w.heap.size, 0, none⟩ = some (.int .i64 own.prom) ∧ w'.cell? ⟨w.heap.size, 1, none⟩ = some (.int .i64 own.view) := fun w' h => ⟨h.2.cell 0, h.2.cell 1⟩
  clear hl
  by_cases hok : newOk b own
  case pos =>
    have HO := Lib.hid hok
    obtain ⟨g1, g2, g3, g4, g5, g6, g7, g8, g9⟩ := hok
    have hs7 := of_in g3 g4 g5
    have he1 : 1 ≤ b.epoch := by
      unfold ofE at g5
      split at g5 <;> omega
    unfold sitesE at g3
    simp only [decide_eq_true_eq] at g3
    have f1 : ¬ b.stream < 0 := by omega
    have f2 : ¬ (4 : Int) ≤ b.stream := by omega
    have f3 : ¬ b.n < 2 := by omega
    have f4 : ¬ (7 : Int) < b.n := by omega
    have f5 : ¬ b.site < 0 := by omega
    have f5' : ¬ b.n ≤ b.site := by omega
    have f0 : ¬ b.epoch < 1 := by omega
    have f6 : (ofE b.epoch b.n != b.site) = false := by simpa using g5
    have f7 : ¬ (1048576 : Int) < b.epoch := by omega
    have f7' : decide ((1048576 : Int) < b.epoch) = false := by simpa using f7
    have f8 : (own.prom != b.epoch) = false := by simpa using g8
    have f9 : ¬ b.epoch ≤ own.view := by omega
    have HG := Lib.hid (And.intro g5 (And.intro g8 g7))
    clear g5 g8 g7
    go_enter Try.func39, Try.ntmps39
    go_wp2_with fail
    refine (rof_any _ _ _).mono ?_
    rintro e w1 ⟨rfl, rfl⟩
    go_wp2_with ((with_reducible refine at_list ?_); first | refine wpList_load_blk_g 24 _ rfl rfl _ rfl _ _ _ (BR) Try.underlying24 rfl rg_info ?_)
    refine (rcheck15_any own s _ HL.out.1).mono ?_
    rintro e w2 ⟨rfl, hb⟩
    rw [HG.out.2.2]
    have hw2 := below_trans HL.out.2 hb HL.out.2.size
    have R2 := BR.keep hb
    obtain ⟨q0, q1⟩ := FC w2 ⟨hw2, R2⟩
    have hsz := hw2.size
    have R2l : Blk w2 w.heap.size 24 [.int .i64 own.prom, .int .i64 own.view, .slice s.1 s.2.1 s.2.2, .int .i64 own.com] := R2
    have HX := Lib.hid (And.intro hw2 R2l)
    have hlt := R2.lt
    clear hb FC HL BR hw2 R2 R2l
    go_wp2_with ((with_reducible refine at_list ?_); first | refine wpList_load_blk rfl 24 _ rfl _ rfl _ _ _ (HX.out.2) Try.underlying24 rfl rg_info ?_)
    go_ret2
    have hlit := Gr.Row.lit (R := oneE) w2 [⟨b.site, own, s⟩] (by simp [maxLen])
    have hwA := HX.out.1.alloc hsz (.cells (oneE.flat [⟨b.site, own, s⟩]).toArray oneE.elem)
    have hwB := hwA.alloc hwA.size (.cells (refv b (.slice (some ⟨w2.heap.size, 0, none⟩) 1 1)).toArray 82)
    refine .inl ⟨HO.out, w2.heap.size + 1, .slice (some ⟨w2.heap.size, 0, none⟩) 1 1, by simp, by omega, ⟨?_, ?_⟩, hwB⟩
    · exact Blk.newAt _ _ _ (by simp)
    · exact ((hlit.keep (Below.refl _ _ |>.alloc (Nat.le_refl _) _)).base hsz)
  case neg =>
    have HO := Lib.hid hok
    clear hok
    by_cases c1 : b.stream < 0
    · go_enter Try.func39, Try.ntmps39
      go_wp2_with fail
      go_ret2
      exact .inr ⟨HO.out, rfl, hz⟩
    by_cases c2 : (4 : Int) ≤ b.stream
    · go_enter Try.func39, Try.ntmps39
      go_wp2_with fail
      go_ret2
      exact .inr ⟨HO.out, rfl, hz⟩
    by_cases c3 : b.n < 2
    · go_enter Try.func39, Try.ntmps39
      go_wp2_with fail
      go_ret2
      exact .inr ⟨HO.out, rfl, hz⟩
    by_cases c4 : (7 : Int) < b.n
    · go_enter Try.func39, Try.ntmps39
      go_wp2_with fail
      go_ret2
      exact .inr ⟨HO.out, rfl, hz⟩
    by_cases c5 : b.site < 0
    · go_enter Try.func39, Try.ntmps39
      go_wp2_with fail
      go_ret2
      exact .inr ⟨HO.out, rfl, hz⟩
    by_cases d5 : b.n ≤ b.site
    · go_enter Try.func39, Try.ntmps39
      go_wp2_with fail
      go_ret2
      exact .inr ⟨HO.out, rfl, hz⟩
    by_cases d0 : b.epoch < 1
    · go_enter Try.func39, Try.ntmps39
      go_wp2_with fail
      go_ret2
      exact .inr ⟨HO.out, rfl, hz⟩
    by_cases c7 : (1048576 : Int) < b.epoch
    · have f7' : decide ((1048576 : Int) < b.epoch) = true := decide_eq_true c7
      go_enter Try.func39, Try.ntmps39
      go_wp2_with fail
      go_ret2
      exact .inr ⟨HO.out, rfl, hz⟩
    have f7' : decide ((1048576 : Int) < b.epoch) = false := decide_eq_false c7
    have hs : sitesE b.n = true := by
      unfold sitesE
      simp only [decide_eq_true_eq]
      omega
    by_cases c6 : ofE b.epoch b.n = b.site
    case neg =>
      have f6 : (ofE b.epoch b.n != b.site) = true := by simpa using c6
      clear c6
      go_enter Try.func39, Try.ntmps39
      go_wp2_with fail
      refine (rof_any _ _ _).mono ?_
      rintro e w1 ⟨rfl, rfl⟩
      go_wp2_with fail
      go_ret2
      exact .inr ⟨HO.out, rfl, hz⟩
    have f6 : (ofE b.epoch b.n != b.site) = false := by simpa using c6
    have hcases : mayR own = false ∨ (mayR own = true ∧ ¬ own.prom = b.epoch) ∨ (mayR own = true ∧ own.prom = b.epoch ∧ b.epoch ≤ own.view) := by
      cases hm : mayR own with
      | false => exact .inl rfl
      | true =>
        by_cases c8 : own.prom = b.epoch
        · refine .inr (.inr ⟨rfl, c8, ?_⟩)
          by_cases h : b.epoch ≤ own.view
          · exact h
          · exact absurd ⟨by omega, by omega, hs, by omega, c6, by omega, hm, c8, by omega⟩ HO.out
        · exact .inr (.inl ⟨rfl, c8⟩)
    clear c6 hs
    rcases hcases with hm | ⟨hm, c8⟩ | ⟨hm, c8, c9⟩
    · skip
      have HM := Lib.hid hm
      clear hm
      go_enter Try.func39, Try.ntmps39
      go_wp2_with fail
      refine (rof_any _ _ _).mono ?_
      rintro e w1 ⟨rfl, rfl⟩
      go_wp2_with ((with_reducible refine at_list ?_); first | refine wpList_load_blk_g 24 _ rfl rfl _ rfl _ _ _ (BR) Try.underlying24 rfl rg_info ?_)
      refine (rcheck15_any own s _ HL.out.1).mono ?_
      rintro e w2 ⟨rfl, hb⟩
      rw [HM.out]
      have hw2 := below_trans HL.out.2 hb HL.out.2.size
      have R2 := BR.keep hb
      obtain ⟨q0, q1⟩ := FC w2 ⟨hw2, R2⟩
      clear hb FC HL BR
      go_wp2_with fail
      go_ret2
      exact .inr ⟨HO.out, rfl, hw2⟩
    · have f8 : (own.prom != b.epoch) = true := by simpa using c8
      clear c8
      have HM := Lib.hid hm
      clear hm
      go_enter Try.func39, Try.ntmps39
      go_wp2_with fail
      refine (rof_any _ _ _).mono ?_
      rintro e w1 ⟨rfl, rfl⟩
      go_wp2_with ((with_reducible refine at_list ?_); first | refine wpList_load_blk_g 24 _ rfl rfl _ rfl _ _ _ (BR) Try.underlying24 rfl rg_info ?_)
      refine (rcheck15_any own s _ HL.out.1).mono ?_
      rintro e w2 ⟨rfl, hb⟩
      rw [HM.out]
      have hw2 := below_trans HL.out.2 hb HL.out.2.size
      have R2 := BR.keep hb
      obtain ⟨q0, q1⟩ := FC w2 ⟨hw2, R2⟩
      clear hb FC HL BR
      go_wp2_with fail
      go_ret2
      exact .inr ⟨HO.out, rfl, hw2⟩
    · have f8 : (own.prom != b.epoch) = false := by simpa using c8
      clear c8
      have HM := Lib.hid hm
      clear hm
      go_enter Try.func39, Try.ntmps39
      go_wp2_with fail
      refine (rof_any _ _ _).mono ?_
      rintro e w1 ⟨rfl, rfl⟩
      go_wp2_with ((with_reducible refine at_list ?_); first | refine wpList_load_blk_g 24 _ rfl rfl _ rfl _ _ _ (BR) Try.underlying24 rfl rg_info ?_)
      refine (rcheck15_any own s _ HL.out.1).mono ?_
      rintro e w2 ⟨rfl, hb⟩
      rw [HM.out]
      have hw2 := below_trans HL.out.2 hb HL.out.2.size
      have R2 := BR.keep hb
      obtain ⟨q0, q1⟩ := FC w2 ⟨hw2, R2⟩
      clear hb FC HL BR
      go_wp2_with fail
      go_ret2
      exact .inr ⟨HO.out, rfl, hw2⟩

def RAddPost (b : BegS) (L : List OneV) (v : Value) (g B : Nat) (x : MailV) (S : Slots) (w : World) (e : Ending) (w' : World) : Prop :=
  (addOk b S x.m ∧ e = .returned (.bool true) ∧ ∃ v', RefAt w' B g b (L ++ [⟨x.m.from_, x.m.reg, x.es⟩]) v' ∧ Kept w w' (some g) v.ownBlock) ∨
  (¬ addOk b S x.m ∧ e = .returned (.bool false) ∧ RefAt w' B g b L v ∧ Below w.heap.size w w')
/-- Both blocks. -/
def RAddW (w w' : World) (B g : Nat) (b : BegS) (L : List OneV) (v : Value) (x : MailV) : Prop := Below w.heap.size w w' ∧ Blk w' w.heap.size 65 (mailv x) ∧ Blk w' g 82 (refv b v)
theorem RAddW.keep {w w' w'' : World} {B g : Nat} {b : BegS} {L : List OneV} {v : Value} {x : MailV} (h : RAddW w w' B g b L v x) (hb : Below w'.heap.size w' w'') : RAddW w w'' B g b L v x := ⟨below_trans h.1 hb h.1.size, h.2.1.keep hb, h.2.2.keep hb⟩

theorem merge0 {G : Prop} (K : Act → World → Prop) {F : Act} {w' : World} (h1 : K F w' → G) (h2 : K F w') : G := h1 h2
theorem grown_setC (w : World) (g i : Nat) (v : Value) : w.grownBy (w.setCell ⟨g, i, none⟩ v) (some g) := only_setCell (World.grownBy.refl w _) (.inl rfl) v
theorem blk_row {w w' : World} {k B size n : Nat} {T U : TypeId} {cs xs : List Value} {v : Value} (h : Blk w k T cs) (hr : w.ownsRow B U size v n xs) (hT : U ≠ T) (hg : w.grownBy w' v.ownBlock) : Blk w' k T cs :=
  h.grown hg (fun e => own_not hr e.symm hT _ h)

set_option maxHeartbeats 8000000 in
theorem radd_any (B g : Nat) (b : BegS) (L : List OneV) (v : Value) (x : MailV) (S : Slots) (w : World) (H : RefAt w B g b L v) (hB : B ≤ w.heap.size) (hn : sitesE b.n = true) (hl : LogAt w w.heap.size x.es x.m.ents) (hS : RelB S (prL L)) (hL7 : L.length ≤ 100) :
    Calls Try.prog 40 #[.pointer (some ⟨g, 0, none⟩), .agg (mailv x).toArray] w fun e w' => RAddPost b L v g B x S w e w' := by
  obtain ⟨hb, hR⟩ := H
  obtain ⟨A, c, rfl, hAc, hc2, hSl⟩ := Gr.Row.form hR
  have hz : Below w.heap.size w (w.alloc (.cells (mailv x).toArray 65)) := (Below.refl _ _).alloc (Nat.le_refl _) _
  have hA : RAddW w (w.alloc (.cells (mailv x).toArray 65)) B g b L (.slice A L.length c) x := ⟨hz, Blk.new w _ _, hb.keep hz⟩
  have hmem : ∀ k r, (k, r) ∈ prL L ↔ ∃ i : Nat, i < 7 ∧ k = i ∧ S i = some r := fun k r => (hS.mem_iff).trans mem_pairs
  have HH := Lib.hid (And.intro hA (And.intro hR (And.intro hl hSl)))
  have HM := Lib.hid (And.intro hmem hn)
  have hg := hb.lt
  have FC : ∀ w', RAddW w w' B g b L (.slice A L.length c) x → (w'.cell? ⟨w.heap.size, 0, none⟩ = some (.int .i64 x.m.kind) ∧ w'.cell? ⟨w.heap.size, 1, none⟩ = some (.int .i64 x.m.from_) ∧ w'.cell? ⟨w.heap.size, 2, none⟩ = some (.int .i64 x.m.to) ∧ w'.cell? ⟨w.heap.size, 3, none⟩ = some (.int .i64 x.m.stream) ∧
      w'.cell? ⟨w.heap.size, 4, none⟩ = some (.int .i64 x.m.epoch) ∧ w'.cell? ⟨w.heap.size, 8, none⟩ = some (.int .i64 x.m.stamp)) ∧
      (w'.cell? ⟨g, 0, none⟩ = some (.int .i64 b.stream) ∧ w'.cell? ⟨g, 1, none⟩ = some (.int .i64 b.epoch) ∧ w'.cell? ⟨g, 2, none⟩ = some (.int .i64 b.site) ∧ w'.cell? ⟨g, 3, none⟩ = some (.int .i64 b.n) ∧ w'.cell? ⟨g, 4, none⟩ = some (.int .i64 b.stamp)) ∧
      w'.cell? ⟨g, 5, none⟩ = some (.slice A L.length c) := fun w' h => by
    obtain ⟨_, h1, h2⟩ := h
    exact ⟨⟨h1.cell 0, h1.cell 1, h1.cell 2, h1.cell 3, h1.cell 4, h1.cell 8⟩, ⟨h2.cell 0, h2.cell 1, h2.cell 2, h2.cell 3, h2.cell 4⟩, h2.cell 5⟩
  have hd : RAddW w ((w.alloc (.cells (mailv x).toArray 65)).drew) B g b L (.slice A L.length c) x := hA.keep (Below.refl _ _).drew
  have HD := Lib.hid hd
  clear hA hR hl hz hb hS hSl hn hmem hd
  go_enter Try.func40, Try.ntmps40
  go_wp2_with fail
  refine wp_region_p ([(0, true), (1, true), (2, true), (3, true), (4, true), (5, true), (6, true), (7, true), (8, true), (9, true), (10, true), (11, true), (12, true), (13, true), (14, true), (15, true), (16, true), (17, true), (18, true), (19, true), (20, true), (21, true), (22, true), (23, true), (24, true), (25, true), (26, true), (27, true), (28, true), (29, true), (30, true), (31, true), (32, true), (33, true), (34, true), (35, true), (36, true), (37, true), (38, true), (39, true), (40, true), (41, true), (42, true), (43, true), (44, true), (45, true), (46, true), (47, true), (48, true), (49, true), (50, true), (51, true), (52, true)]) (fun w' => RAddW w w' B g b L (.slice A L.length c) x) (by kernel_rfl) rfl (by kernel_rfl) (by kernel_rfl) (HD.out) rfl ?_
  intro KP RP TP hKP hTP hTP'
  simp only [List.append_eq, List.cons_append, List.nil_append, pick, nth]
  go_wp2_with (first
    | (apply SeqP.skip; rfl; simp only [Act.put, List.setIfInBounds_toArray, List.set_cons_zero, List.set_cons_succ])
    | (apply SeqP.call; rfl; rfl; (intro w2 hw; have hw := hTP _ hw; ((obtain ⟨⟨q0, q1, q2, q3, q4, q5⟩, ⟨r0, r1, r2, r3, r4⟩, t0⟩ := FC _ hw)); go_simp; exact ⟨rfl, rfl⟩); (intro w2 hw; have hw := hTP _ hw; ((obtain ⟨⟨q0, q1, q2, q3, q4, q5⟩, ⟨r0, r1, r2, r3, r4⟩, t0⟩ := FC _ hw)); (first | fail)); simp only [Act.put, List.setIfInBounds_toArray, List.set_cons_zero, List.set_cons_succ])
    | (apply SeqP.pure; rfl; (intro w2 hw; have hw := hTP _ hw; ((obtain ⟨⟨q0, q1, q2, q3, q4, q5⟩, ⟨r0, r1, r2, r3, r4⟩, t0⟩ := FC _ hw)); go_simp; with_reducible rfl); simp only [Act.put, List.setIfInBounds_toArray, List.set_cons_zero, List.set_cons_succ])
    | (apply SeqP.split; rfl; rfl; all_goals (intro hc; simp only [hc]; try simp only [beq_iff_eq, decide_eq_true_eq, beq_eq_false_iff_ne, decide_eq_false_iff_not, bne_iff_ne, ne_eq, Bool.not_eq_true', Bool.not_eq_false', Int.not_le, Int.not_lt, bne_eq_false_iff_eq, Bool.or_eq_true, Bool.and_eq_true, Bool.or_eq_false_iff] at hc)))
  all_goals (apply SeqP.nil; refine hKP _ _ (hTP' _ (HD.out)) ?_; clear hKP hTP hTP')
  all_goals first
    | (have HNO : Hid (¬ addOk b S x.m) := Lib.hid (by rintro ⟨⟨a1, a2, a3, a4, a5, a6, a7, a8⟩, _⟩; first | contradiction | omega)
       have RR : Hid (RefAt (w.alloc (.cells (mailv x).toArray 65)).drew B g b L (.slice A L.length c)) := Lib.hid ⟨HD.out.2.2, HH.out.2.1.keep HD.out.1⟩
       go_wp2_with fail
       go_ret
       exact .inr ⟨HNO.out, rfl, RR.out, HD.out.1⟩)
    | skip
  by_cases k7 : b.n ≤ x.m.from_
  · have HNO : Hid (¬ addOk b S x.m) := Lib.hid (by rintro ⟨⟨a1, a2, a3, a4, a5, a6, a7, a8⟩, _⟩; first | contradiction | omega)
    have RR : Hid (RefAt (w.alloc (.cells (mailv x).toArray 65)).drew B g b L (.slice A L.length c)) := Lib.hid ⟨HD.out.2.2, HH.out.2.1.keep HD.out.1⟩
    go_wp2_with fail
    go_ret
    exact .inr ⟨HNO.out, rfl, RR.out, HD.out.1⟩
  rename_i k1 k2 k3 k4 k5
  have k6 := hc
  clear hc
  have HK := Lib.hid (And.intro k1 (And.intro k2 (And.intro k3 (And.intro k4 (And.intro k5 (And.intro k6 k7))))))
  have d7 : ¬ b.n ≤ x.m.from_ := k7
  clear k1 k2 k3 k4 k5 k6 k7
  refine abs_at (fun W => RAddW w W B g b L (.slice A L.length c) x) HD.out ?_
  intro w0 hA0
  have HA0 := Lib.hid hA0
  clear hA0 HD
  have lm := HA0.out.2.1.lt
  have lg := HA0.out.2.2.lt
  have ne1 : ¬ w.heap.size = g := by omega
  have ne2 : ¬ g = w.heap.size := by omega
  go_wp2_with fail

  go_loopg [5] L.length (fun q i wr => ∃ j : Nat, q = L.length - j ∧ j ≤ L.length ∧ i = .int .i64 j ∧ RAddW w wr B g b L (.slice A L.length c) x ∧ ∀ y ∈ L.take j, y.site ≠ x.m.from_)
  case atStart => exact ⟨0, rfl, by omega, rfl, HA0.out, by simp⟩
  case round =>
    clear HA0 lm lg
    obtain ⟨j, hq, hj, rfl, hA1, hno⟩ := hrel
    have AA : Aside (gk = L.length - j) := hq
    clear hq
    obtain ⟨wo, rfl⟩ : ∃ wo, wo = wr := ⟨_, rfl⟩
    have HA1 := Lib.hid hA1
    have t0 := (FC _ hA1).2.2
    clear hA1
    by_cases hlt : j < L.length
    · have j0 : (0 : Int) ≤ (j : Int) := by omega
      have j1 : (j : Int) < (L.length : Int) := by omega
      obtain ⟨bA, oA, y, rfl, hy, hbA, FA⟩ := Gr.Sl.at_ HH.out.2.2.2 hlt
      have FS : ∀ w', RAddW w w' B g b L (.slice (some ⟨bA, oA, none⟩) L.length c) x → w'.cell? ⟨bA, oA + j * 5, none⟩ = some (.int .i64 y.site) ∧ w'.cell? ⟨w.heap.size, 1, none⟩ = some (.int .i64 x.m.from_) ∧ w'.cell? ⟨g, 5, none⟩ = some (.slice (some ⟨bA, oA, none⟩) L.length c) := fun w' h => ⟨FA w' h.1 0 (by show 0 < 5; omega), (FC _ h).1.2.1, (FC _ h).2.2⟩
      clear FA
      by_cases hs : y.site = x.m.from_
      · have HNO : Hid (¬ addOk b S x.m) := Lib.hid (fun h => by
          have hn := (addOk_iff.1 h).2
          obtain ⟨i, _, hi, hSi⟩ := (HM.out.1 y.site y.r).1 (List.mem_map.2 ⟨y, List.mem_of_getElem? hy.out, rfl⟩)
          have : keyM x.m = i := by unfold keyM; omega
          rw [this, hSi] at hn
          cases hn)
        have hbt : (y.site == x.m.from_) = true := by simpa using hs
        clear hs
        go_wp2_with fail
        refine wp_region_p ([(0, true), (1, true), (2, true), (3, true), (4, true), (5, true), (6, true), (7, true), (8, true), (9, true), (10, true)]) (fun w' => RAddW w w' B g b L (.slice (some ⟨bA, oA, none⟩) L.length c) x) (by kernel_rfl) rfl (by kernel_rfl) (by kernel_rfl) (HA1.out.keep (Below.refl _ _).drew) rfl ?_
        intro KP RP TP hKP hTP hTP'
        simp only [List.append_eq, List.cons_append, List.nil_append, pick, nth]
        go_wp2_with (first
          | (apply SeqP.skip; rfl; simp only [Act.put, List.setIfInBounds_toArray, List.set_cons_zero, List.set_cons_succ])
          | (apply SeqP.call; rfl; rfl; (intro w2 hw; have hw := hTP _ hw; ((obtain ⟨q0, q1, q2⟩ := FS _ hw)); go_simp; exact ⟨rfl, rfl⟩); (intro w2 hw; have hw := hTP _ hw; ((obtain ⟨q0, q1, q2⟩ := FS _ hw)); (first | fail)); simp only [Act.put, List.setIfInBounds_toArray, List.set_cons_zero, List.set_cons_succ])
          | (apply SeqP.pure; rfl; (intro w2 hw; have hw := hTP _ hw; ((obtain ⟨q0, q1, q2⟩ := FS _ hw)); go_simp; with_reducible rfl); simp only [Act.put, List.setIfInBounds_toArray, List.set_cons_zero, List.set_cons_succ])
          | (apply SeqP.split; rfl; rfl; all_goals (intro hc; simp only [hc]; try simp only [beq_iff_eq, decide_eq_true_eq, beq_eq_false_iff_ne, decide_eq_false_iff_not, bne_iff_ne, ne_eq, Bool.not_eq_true', Bool.not_eq_false', Int.not_le, Int.not_lt, bne_eq_false_iff_eq, Bool.or_eq_true, Bool.and_eq_true, Bool.or_eq_false_iff] at hc)))
        apply SeqP.nil
        refine hKP _ _ (hTP' _ (HA1.out.keep (Below.refl _ _).drew)) ?_
        clear hKP hTP hTP'
        have HA2 := Lib.hid (HA1.out.keep (Below.refl _ _).drew)
        go_wp2_with fail
        go_ret
        exact .inr ⟨HNO.out, rfl, ⟨HA2.out.2.2, HH.out.2.1.keep HA2.out.1⟩, HA2.out.1⟩
      · have HS := Lib.hid hs
        have hbt : (y.site == x.m.from_) = false := by simpa using hs
        clear hs
        go_wp2_with fail
        refine wp_region_p ([(0, true), (1, true), (2, true), (3, true), (4, true), (5, true), (6, true), (7, true), (8, true), (9, true), (10, true)]) (fun w' => RAddW w w' B g b L (.slice (some ⟨bA, oA, none⟩) L.length c) x) (by kernel_rfl) rfl (by kernel_rfl) (by kernel_rfl) (HA1.out.keep (Below.refl _ _).drew) rfl ?_
        intro KP RP TP hKP hTP hTP'
        simp only [List.append_eq, List.cons_append, List.nil_append, pick, nth]
        go_wp2_with (first
          | (apply SeqP.skip; rfl; simp only [Act.put, List.setIfInBounds_toArray, List.set_cons_zero, List.set_cons_succ])
          | (apply SeqP.call; rfl; rfl; (intro w2 hw; have hw := hTP _ hw; ((obtain ⟨q0, q1, q2⟩ := FS _ hw)); go_simp; exact ⟨rfl, rfl⟩); (intro w2 hw; have hw := hTP _ hw; ((obtain ⟨q0, q1, q2⟩ := FS _ hw)); (first | fail)); simp only [Act.put, List.setIfInBounds_toArray, List.set_cons_zero, List.set_cons_succ])
          | (apply SeqP.pure; rfl; (intro w2 hw; have hw := hTP _ hw; ((obtain ⟨q0, q1, q2⟩ := FS _ hw)); go_simp; with_reducible rfl); simp only [Act.put, List.setIfInBounds_toArray, List.set_cons_zero, List.set_cons_succ])
          | (apply SeqP.split; rfl; rfl; all_goals (intro hc; simp only [hc]; try simp only [beq_iff_eq, decide_eq_true_eq, beq_eq_false_iff_ne, decide_eq_false_iff_not, bne_iff_ne, ne_eq, Bool.not_eq_true', Bool.not_eq_false', Int.not_le, Int.not_lt, bne_eq_false_iff_eq, Bool.or_eq_true, Bool.and_eq_true, Bool.or_eq_false_iff] at hc)))
        apply SeqP.nil
        refine hKP _ _ (hTP' _ (HA1.out.keep (Below.refl _ _).drew)) ?_
        clear hKP hTP hTP'
        have HA2 := Lib.hid (HA1.out.keep (Below.refl _ _).drew)
        go_wp2_with fail
        go_roundg (L.length - (j + 1))
        case measure => have hkk := AA.out; omega
        case rel =>
          refine ⟨j + 1, rfl, by omega, by go_num, HA2.out, fun z hz => ?_⟩
          rw [List.take_add_one, hy.out] at hz
          rcases List.mem_append.1 hz with hz | hz
          · exact hno z hz
          · obtain rfl : z = y := by simpa using hz
            exact HS.out
    · obtain rfl : j = L.length := by omega
      rw [List.take_length] at hno
      have hk7 : keyM x.m < 7 := by
        have h1 := HK.out.2.2.2.2.2.1
        have h2 := sites_cases HM.out.2
        unfold keyM
        omega
      have hSn : S (keyM x.m) = none := by
        cases hc : S (keyM x.m) with
        | none => rfl
        | some r =>
          exfalso
          obtain ⟨y, hy, he⟩ := List.mem_map.1 ((HM.out.1 (keyM x.m : Int) r).2 ⟨keyM x.m, hk7, rfl, hc⟩)
          have e1 : y.site = (keyM x.m : Int) := (Prod.mk.inj he).1
          refine hno y hy ?_
          have h1 := HK.out.2.2.2.2.2.1
          rw [e1]
          unfold keyM
          omega
      have HSN : Hid (addPre b S x.m) := Lib.hid ⟨HK.out.1, HK.out.2.2.1, HK.out.2.2.2.1, HK.out.2.1, HK.out.2.2.2.2.2.1, by have := HK.out.2.2.2.2.2.2; omega, hSn, HK.out.2.2.2.2.1⟩
      clear hSn hk7 hno
      have m4 : wo.cell? ⟨w.heap.size, 4, none⟩ = some (.int .i64 x.m.epoch) := HA1.out.2.1.cell 4
      have m5 : wo.cell? ⟨w.heap.size, 5, none⟩ = some (.int .i64 x.m.view) := HA1.out.2.1.cell 5
      have m9 : wo.cell? ⟨w.heap.size, 9, none⟩ = some (.slice x.es.1 x.es.2.1 x.es.2.2) := HA1.out.2.1.cell 9
      have m7 : wo.cell? ⟨w.heap.size, 7, none⟩ = some (.int .i64 x.m.len) := HA1.out.2.1.cell 7
      have j1 : ¬ (L.length : Int) < (L.length : Int) := by omega
      have lm := HA1.out.2.1.lt
      have lg := HA1.out.2.2.lt
      go_wp2_with fail
      have hb0 : Below wo.heap.size wo (wo.alloc (.cells (rgv x.m.reg x.es).toArray 24)) := (Below.refl _ _).alloc (Nat.le_refl _) _
      have A1 := HA1.out.keep hb0
      have R1 := Blk.new wo 24 (rgv x.m.reg x.es)
      have hrb : w.heap.size + 1 ≤ wo.heap.size := lm
      have HA2 := Lib.hid (And.intro A1 R1)
      clear A1 R1 hb0 m4 m5 m9 m7 lm lg HA1
      generalize wo.heap.size = rb at *
      refine abs_code (fun W => RAddW w W B g b L (.slice A L.length c) x ∧ Blk W rb 24 (rgv x.m.reg x.es)) HA2.out ?_
      intro w3 hA3
      have HA3 := Lib.hid hA3
      have FR : ∀ w', RAddW w w' B g b L (.slice A L.length c) x ∧ Blk w' rb 24 (rgv x.m.reg x.es) → w'.cell? ⟨rb, 1, none⟩ = some (.int .i64 x.m.view) ∧ w'.cell? ⟨g, 1, none⟩ = some (.int .i64 b.epoch) := fun w' h => ⟨h.2.cell 1, h.1.2.2.cell 1⟩
      have hd3 : RAddW w w3.drew B g b L (.slice A L.length c) x ∧ Blk w3.drew rb 24 (rgv x.m.reg x.es) := ⟨hA3.1.keep (Below.refl _ _).drew, hA3.2.drew⟩
      have HD3 := Lib.hid hd3
      clear hA3 HA2 hd3
      refine wp_region_p ([(0, true), (1, false), (2, true), (3, true), (4, true), (5, true), (6, true), (7, true), (8, true), (9, true), (10, true), (11, true)]) (fun w' => RAddW w w' B g b L (.slice A L.length c) x ∧ Blk w' rb 24 (rgv x.m.reg x.es)) (by kernel_rfl) rfl (by kernel_rfl) (by kernel_rfl) (HD3.out) rfl ?_
      intro KP RP TP hKP hTP hTP'
      simp only [List.append_eq, List.cons_append, List.nil_append, pick, nth]
      go_wp2_with (first
        | (apply SeqP.skip; rfl; simp only [Act.put, List.setIfInBounds_toArray, List.set_cons_zero, List.set_cons_succ])
        | (apply SeqP.pure; rfl; (intro w2 hw; have hw := hTP _ hw; exact exec_load_blk 24 _ rfl _ rfl _ _ hw.2 _ Try.underlying24 rfl rg_info); simp only [Act.put, List.setIfInBounds_toArray, List.set_cons_zero, List.set_cons_succ])
        | (apply SeqP.call; rfl; rfl; (intro w2 hw; have hw := hTP _ hw; (skip); go_simp; exact ⟨rfl, rfl⟩); (intro w2 hw; have hw := hTP _ hw; (skip); (first | fail)); simp only [Act.put, List.setIfInBounds_toArray, List.set_cons_zero, List.set_cons_succ])
        | (apply SeqP.pure; rfl; (intro w2 hw; have hw := hTP _ hw; (skip); go_simp; with_reducible rfl); simp only [Act.put, List.setIfInBounds_toArray, List.set_cons_zero, List.set_cons_succ])
        | (apply SeqP.split; rfl; rfl; all_goals (intro hc; simp only [hc]; try simp only [beq_iff_eq, decide_eq_true_eq, beq_eq_false_iff_ne, decide_eq_false_iff_not, bne_iff_ne, ne_eq, Bool.not_eq_true', Bool.not_eq_false', Int.not_le, Int.not_lt, bne_eq_false_iff_eq, Bool.or_eq_true, Bool.and_eq_true, Bool.or_eq_false_iff] at hc)))
      apply SeqP.eff
      · rfl
      intro KE hKE
      go_wp2_with fail
      refine (rcheck15_any x.m.reg x.es _ (HH.out.2.2.1.keep HD3.out.1.1)).mono ?_
      rintro e w4 ⟨rfl, hb⟩
      have HA4 := Lib.hid (show RAddW w w4 B g b L (.slice A L.length c) x ∧ Blk w4 rb 24 (rgv x.m.reg x.es) from ⟨HD3.out.1.keep hb, HD3.out.2.keep hb⟩)
      refine hKE _ _ (hTP' _ HA4.out) ?_
      clear hKE hb HD3 HA3
      have hcases : (mayR x.m.reg = true ∧ x.m.view < b.epoch) ∨ mayR x.m.reg = false ∨ (mayR x.m.reg = true ∧ b.epoch ≤ x.m.view) := by
        cases mayR x.m.reg with
        | false => exact .inr (.inl rfl)
        | true => exact (Int.lt_or_le x.m.view b.epoch).elim (fun h => .inl ⟨rfl, h⟩) (fun h => .inr (.inr ⟨rfl, h⟩))
      rcases hcases with ⟨hm, hv⟩ | hm | ⟨hm, hv⟩
      · have HOK : Hid (addOk b S x.m) := Lib.hid ⟨HSN.out, hm, hv⟩
        have hv2 : decide (b.epoch ≤ x.m.view) = false := decide_eq_false (by omega)
        rw [hm]
        clear hm
        go_wp2_with (first
          | (apply SeqP.skip; rfl; simp only [Act.put, List.setIfInBounds_toArray, List.set_cons_zero, List.set_cons_succ])
          | (apply SeqP.call; rfl; rfl; (intro w2 hw; have hw := hTP _ hw; ((obtain ⟨q0, q1⟩ := FR _ hw)); go_simp; exact ⟨rfl, rfl⟩); (intro w2 hw; have hw := hTP _ hw; ((obtain ⟨q0, q1⟩ := FR _ hw)); (first | fail)); simp only [Act.put, List.setIfInBounds_toArray, List.set_cons_zero, List.set_cons_succ])
          | (apply SeqP.pure; rfl; (intro w2 hw; have hw := hTP _ hw; ((obtain ⟨q0, q1⟩ := FR _ hw)); go_simp; with_reducible rfl); simp only [Act.put, List.setIfInBounds_toArray, List.set_cons_zero, List.set_cons_succ])
          | (apply SeqP.split; rfl; rfl; all_goals (intro hc; simp only [hc]; try simp only [beq_iff_eq, decide_eq_true_eq, beq_eq_false_iff_ne, decide_eq_false_iff_not, bne_iff_ne, ne_eq, Bool.not_eq_true', Bool.not_eq_false', Int.not_le, Int.not_lt, bne_eq_false_iff_eq, Bool.or_eq_true, Bool.and_eq_true, Bool.or_eq_false_iff] at hc)))
        apply SeqP.nil
        refine hKP _ _ (hTP' _ (HA4.out)) ?_
        clear hKP hTP hTP'
        refine abs_at (fun W => RAddW w W B g b L (.slice A L.length c) x ∧ Blk W rb 24 (rgv x.m.reg x.es)) HA4.out ?_
        intro w5 hA5
        have HA5 := Lib.hid hA5
        have hwd : Below w5.heap.size w5 w5.drew := (Below.refl _ _).drew
        have hd5 : RAddW w w5.drew B g b L (.slice A L.length c) x ∧ Blk w5.drew rb 24 (rgv x.m.reg x.es) := ⟨hA5.1.keep hwd, hA5.2.drew⟩
        have HD5 := Lib.hid hd5
        have hRd := (HH.out.2.1.keep hd5.1.1)
        have hBd : B ≤ w5.drew.heap.size := Nat.le_trans hB hd5.1.1.size
        obtain ⟨v6, w6, hrun, hR6, hg6, hor⟩ := Gr.Row.snoc hRd (⟨x.m.from_, x.m.reg, x.es⟩ : OneV) (by omega) hBd (H := w5.drew.heap.size) rfl 80
        obtain ⟨A6, c6, rfl, _, _, _⟩ := Gr.Row.form hR6
        clear hA5 hd5 HA4 FR
        obtain ⟨LN, hLN⟩ : ∃ LN, L ++ [(⟨x.m.from_, x.m.reg, x.es⟩ : OneV)] = LN := ⟨_, rfl⟩
        rw [hLN] at hrun hR6
        have hrun' : (Builtin.append_ #[80, 80] 80 #[.slice A L.length c, .slice (some ⟨w5.drew.heap.size, 0, none⟩) 1 1]).run Try.prog (w5.drew.alloc (.cells #[.int .i64 x.m.from_, .int .i64 x.m.epoch, .int .i64 x.m.view, .slice x.es.1 x.es.2.1 x.es.2.2, .int .i64 x.m.len] 97)) = .ok (.slice A6 LN.length c6) w6 := hrun
        have M6 : Blk w6 w.heap.size 65 (mailv x) := blk_row HD5.out.1.2.1 hRd (by decide) hg6
        have G6 : Blk w6 g 82 (refv b (.slice A L.length c)) := blk_row HD5.out.1.2.2 hRd (by decide) hg6
        have R6 : Blk w6 rb 24 [.int .i64 x.m.epoch, .int .i64 x.m.view, .slice x.es.1 x.es.2.1 x.es.2.2, .int .i64 x.m.len] := blk_row HD5.out.2 hRd (by decide) hg6
        have K6 : Kept w w6 (some g) (Value.slice A L.length c).ownBlock := (Kept.ofBelow HD5.out.1.1 _ _).trans (Kept.ofGrown2 hg6)
        have HX := Lib.hid (And.intro M6 (And.intro G6 (And.intro R6 (And.intro K6 (And.intro hR6 hLN)))))
        have S5 : Blk w5.drew w.heap.size 65 (mailv x) ∧ Blk w5.drew rb 24 [.int .i64 x.m.epoch, .int .i64 x.m.view, .slice x.es.1 x.es.2.1 x.es.2.2, .int .i64 x.m.len] := ⟨HD5.out.1.2.1, HD5.out.2⟩
        have HS5 := Lib.hid S5
        have g5 : w5.drew.cell? ⟨g, 5, none⟩ = some (.slice A L.length c) := HD5.out.1.2.2.cell 5
        have g5' : ∀ o, (w5.drew.alloc o).cell? ⟨g, 5, none⟩ = some (.slice A L.length c) := fun o => (HD5.out.1.2.2.alloc o).cell 5
        have hg5 : g < w5.drew.heap.size := HD5.out.1.2.2.lt
        have hrm : rb ≠ g := by
          intro e
          subst e
          exact blk_not HD5.out.2 (show 24 ≠ 82 by decide) _ HD5.out.1.2.2
        clear hrun hR6 hg6 hor M6 G6 R6 K6 hRd hBd S5
        have hgm : w.heap.size ≠ g := by omega
        have hsz5 : w5.drew.heap.size = w5.heap.size := rfl
        have n5 : ¬ g = w5.heap.size := by omega
        have n5' : ¬ g = w5.drew.heap.size := by omega
        have l5 : g < w5.heap.size := by omega
        clear hsz5
        go_wp2_with fail
        refine wp_region_t (.quiet 0 (.quiet 1 (.quiet 2 (.quiet 3 (.quiet 5 (.quiet 6 (.quiet 7 (.quiet 8 (.two 4 9 (.one 9 (.one 10 (.quiet 11 (.quiet 12 (.one 13 .done))))) (.one 4 (.one 10 (.quiet 11 (.quiet 12 (.one 13 .done)))))))))))))) (fun w' => Blk w' w.heap.size 65 (mailv x) ∧ Blk w' rb 24 [.int .i64 x.m.epoch, .int .i64 x.m.view, .slice x.es.1 x.es.2.1 x.es.2.2, .int .i64 x.m.len]) (by kernel_rfl) (by kernel_rfl) (by kernel_rfl) (by kernel_rfl) (HS5.out) rfl ?_
        intro KP RP TP hKP hTP hTP'
        simp only [Sch.fill, nth]
        have lk : ∀ w', w6.grownBy w' (some g) → Blk w' w.heap.size 65 (mailv x) ∧ Blk w' rb 24 [.int .i64 x.m.epoch, .int .i64 x.m.view, .slice x.es.1 x.es.2.1 x.es.2.2, .int .i64 x.m.len] := fun w' hg => ⟨HX.out.1.grown hg (fun e => hgm (Option.some.inj e)), HX.out.2.2.1.grown hg (fun e => hrm (Option.some.inj e))⟩
        apply merge0 KP (w' := w6.setCell ⟨g, 5, none⟩ (Value.slice A6 LN.length c6))
        · intro hfin
          go_wp2_with (first
            | (apply SeqT.skip; rfl; simp only [Act.put, List.setIfInBounds_toArray, List.set_cons_zero, List.set_cons_succ])
            | (apply SeqT.pure; rfl; (intro w9 hw9; have hw9 := hTP _ hw9; exact exec_load_blk 24 _ rfl _ rfl _ _ (hw9.2) _ Try.underlying24 rfl rg_info); simp only [Act.put, List.setIfInBounds_toArray, List.set_cons_zero, List.set_cons_succ])
            | (apply SeqT.pure; rfl; (intro w9 hw9; have hw9 := hTP _ hw9; ((have q1 := hw9.1.cell 1; simp [mailv] at q1)); go_simp; with_reducible rfl); simp only [Act.put, List.setIfInBounds_toArray, List.set_cons_zero, List.set_cons_succ]))
          apply SeqT.two
          · apply EffT.go
            · rfl
            intro KE hKE
            go_wp2_with fail
            refine hKE _ _ (hTP' _ (HS5.out)) ?_
            clear hKE KE
            apply SeqT.one
            apply EffT.go
            · rfl
            intro KE hKE
            go_wp2_with fail
            refine hKE _ _ (hTP' _ (⟨HS5.out.1.alloc _, HS5.out.2.alloc _⟩)) ?_
            clear hKE KE
            apply SeqT.one
            apply EffT.go
            · rfl
            intro KE hKE
            refine oper_app (by rfl) (by rfl) (by rfl) hrun' ?_
            refine hKE _ _ (hTP' _ ⟨HX.out.1, HX.out.2.2.1⟩) ?_
            clear hKE KE
            go_wp2_with (first
              | (apply SeqT.skip; rfl; simp only [Act.put, List.setIfInBounds_toArray, List.set_cons_zero, List.set_cons_succ])
              | (apply SeqT.call; rfl; rfl; (intro w2 hw; have hw := hTP _ hw; (skip); go_simp; exact ⟨rfl, rfl⟩); (intro w2 hw; have hw := hTP _ hw; (skip); (first | fail)); simp only [Act.put, List.setIfInBounds_toArray, List.set_cons_zero, List.set_cons_succ])
              | (apply SeqT.pure; rfl; (intro w2 hw; have hw := hTP _ hw; (skip); go_simp; with_reducible rfl); simp only [Act.put, List.setIfInBounds_toArray, List.set_cons_zero, List.set_cons_succ]))
            apply SeqT.one
            apply EffT.go
            · rfl
            intro KE hKE
            have s0 := HX.out.2.1.cell 5
            have f0 := HX.out.2.1.frozen 5
            simp [refv] at s0
            go_wp2_with fail
            refine hKE _ _ (hTP' _ (lk _ (grown_setC w6 g 5 (Value.slice A6 LN.length c6)))) ?_
            apply SeqT.done
            exact hfin
          · apply EffT.go
            · rfl
            intro KE hKE
            go_wp2_with fail
            refine eff_abs hKE (fun W' => W'.cell? ⟨g, 5, none⟩ = some (.slice A L.length c) ∧ (Builtin.append_ #[80, 80] 80 #[.slice A L.length c, .slice (some ⟨w5.drew.heap.size, 0, none⟩) 1 1]).run Try.prog W' = .ok (.slice A6 LN.length c6) w6 ∧ (Blk W' w.heap.size 65 (mailv x) ∧ Blk W' rb 24 [.int .i64 x.m.epoch, .int .i64 x.m.view, .slice x.es.1 x.es.2.1 x.es.2.2, .int .i64 x.m.len])) ⟨g5' _, hrun', HS5.out.1.alloc _, HS5.out.2.alloc _⟩ (fun W' h => hTP' _ h.2.2) ?_
            rintro w7 ⟨l7, hrun7, S7⟩
            clear hKE KE hrun'
            apply SeqT.one
            apply EffT.go
            · rfl
            intro KE hKE
            go_wp2_with fail
            refine hKE _ _ (hTP' _ (S7)) ?_
            clear hKE KE
            apply SeqT.one
            apply EffT.go
            · rfl
            intro KE hKE
            refine oper_app (by rfl) (by rfl) (by rfl) hrun7 ?_
            refine hKE _ _ (hTP' _ ⟨HX.out.1, HX.out.2.2.1⟩) ?_
            clear hKE KE
            go_wp2_with (first
              | (apply SeqT.skip; rfl; simp only [Act.put, List.setIfInBounds_toArray, List.set_cons_zero, List.set_cons_succ])
              | (apply SeqT.call; rfl; rfl; (intro w2 hw; have hw := hTP _ hw; (skip); go_simp; exact ⟨rfl, rfl⟩); (intro w2 hw; have hw := hTP _ hw; (skip); (first | fail)); simp only [Act.put, List.setIfInBounds_toArray, List.set_cons_zero, List.set_cons_succ])
              | (apply SeqT.pure; rfl; (intro w2 hw; have hw := hTP _ hw; (skip); go_simp; with_reducible rfl); simp only [Act.put, List.setIfInBounds_toArray, List.set_cons_zero, List.set_cons_succ]))
            apply SeqT.one
            apply EffT.go
            · rfl
            intro KE hKE
            have s0 := HX.out.2.1.cell 5
            have f0 := HX.out.2.1.frozen 5
            simp [refv] at s0
            go_wp2_with fail
            refine hKE _ _ (hTP' _ (lk _ (grown_setC w6 g 5 (Value.slice A6 LN.length c6)))) ?_
            apply SeqT.done
            exact hfin
        refine hKP _ _ (hTP' _ (lk _ (grown_setC w6 g 5 (Value.slice A6 LN.length c6)))) ?_
        clear hKP hrun' lk
        go_wp2_with fail
        go_ret
        have gs := grown_setC w6 g 5 (Value.slice A6 LN.length c6)
        refine .inl ⟨HOK.out, rfl, .slice A6 LN.length c6, ⟨HX.out.2.1.set 5 _, ?_⟩, HX.out.2.2.2.1.trans (Kept.ofGrown gs)⟩
        rw [HX.out.2.2.2.2.2]
        exact own_beside HX.out.2.2.2.2.1 gs (blk_not HX.out.2.1 (show 82 ≠ 97 by decide))
      · have HNO : Hid (¬ addOk b S x.m) := Lib.hid (fun h => by rw [h.2.1] at hm; cases hm)
        rw [hm]
        clear hm
        go_wp2_with (first
          | (apply SeqP.skip; rfl; simp only [Act.put, List.setIfInBounds_toArray, List.set_cons_zero, List.set_cons_succ])
          | (apply SeqP.call; rfl; rfl; (intro w2 hw; have hw := hTP _ hw; ((obtain ⟨q0, q1⟩ := FR _ hw)); go_simp; exact ⟨rfl, rfl⟩); (intro w2 hw; have hw := hTP _ hw; ((obtain ⟨q0, q1⟩ := FR _ hw)); (first | fail)); simp only [Act.put, List.setIfInBounds_toArray, List.set_cons_zero, List.set_cons_succ])
          | (apply SeqP.pure; rfl; (intro w2 hw; have hw := hTP _ hw; ((obtain ⟨q0, q1⟩ := FR _ hw)); go_simp; with_reducible rfl); simp only [Act.put, List.setIfInBounds_toArray, List.set_cons_zero, List.set_cons_succ])
          | (apply SeqP.split; rfl; rfl; all_goals (intro hc; simp only [hc]; try simp only [beq_iff_eq, decide_eq_true_eq, beq_eq_false_iff_ne, decide_eq_false_iff_not, bne_iff_ne, ne_eq, Bool.not_eq_true', Bool.not_eq_false', Int.not_le, Int.not_lt, bne_eq_false_iff_eq, Bool.or_eq_true, Bool.and_eq_true, Bool.or_eq_false_iff] at hc)))
        apply SeqP.nil
        refine hKP _ _ (hTP' _ (HA4.out)) ?_
        clear hKP hTP hTP'
        go_wp2_with fail
        go_ret
        exact .inr ⟨HNO.out, rfl, ⟨HA4.out.1.2.2, HH.out.2.1.keep HA4.out.1.1⟩, HA4.out.1.1⟩
      · have HNO : Hid (¬ addOk b S x.m) := Lib.hid (fun h => by have := h.2.2; omega)
        have hv2 : decide (b.epoch ≤ x.m.view) = true := decide_eq_true hv
        rw [hm]
        clear hm
        go_wp2_with (first
          | (apply SeqP.skip; rfl; simp only [Act.put, List.setIfInBounds_toArray, List.set_cons_zero, List.set_cons_succ])
          | (apply SeqP.call; rfl; rfl; (intro w2 hw; have hw := hTP _ hw; ((obtain ⟨q0, q1⟩ := FR _ hw)); go_simp; exact ⟨rfl, rfl⟩); (intro w2 hw; have hw := hTP _ hw; ((obtain ⟨q0, q1⟩ := FR _ hw)); (first | fail)); simp only [Act.put, List.setIfInBounds_toArray, List.set_cons_zero, List.set_cons_succ])
          | (apply SeqP.pure; rfl; (intro w2 hw; have hw := hTP _ hw; ((obtain ⟨q0, q1⟩ := FR _ hw)); go_simp; with_reducible rfl); simp only [Act.put, List.setIfInBounds_toArray, List.set_cons_zero, List.set_cons_succ])
          | (apply SeqP.split; rfl; rfl; all_goals (intro hc; simp only [hc]; try simp only [beq_iff_eq, decide_eq_true_eq, beq_eq_false_iff_ne, decide_eq_false_iff_not, bne_iff_ne, ne_eq, Bool.not_eq_true', Bool.not_eq_false', Int.not_le, Int.not_lt, bne_eq_false_iff_eq, Bool.or_eq_true, Bool.and_eq_true, Bool.or_eq_false_iff] at hc)))
        apply SeqP.nil
        refine hKP _ _ (hTP' _ (HA4.out)) ?_
        clear hKP hTP hTP'
        go_wp2_with fail
        go_ret
        exact .inr ⟨HNO.out, rfl, ⟨HA4.out.1.2.2, HH.out.2.1.keep HA4.out.1.1⟩, HA4.out.1.1⟩
end Go.Proofs.Ytbicefilfhcgoaa

set_option linter.unusedSimpArgs false
set_option linter.unusedVariables false
set_option maxRecDepth 100000
namespace Go.Proofs.Ytbicefilfhcgoaa
open Go Go.RowKit Go.Sq Go.Wd Go.Arch

def one0 : OneV := ⟨0, reg0, no0⟩
def bestV : List OneV → Nat → OneV
  | L, 0 => L.headD one0
  | L, j + 1 => match L[j + 1]? with
    | some x => if BetterD (x.site, x.r) ((bestV L j).site, (bestV L j).r) then x else bestV L j
    | none => bestV L j
theorem bestV_pr (L : List OneV) : ∀ j, ((bestV L j).site, (bestV L j).r) = bestD (prL L) j
  | 0 => by
    cases L with
    | nil => rfl
    | cons a L => rfl
  | j + 1 => by
    have ih := bestV_pr L j
    have hg : (prL L)[j + 1]? = (L[j + 1]?).map fun x => (x.site, x.r) := by unfold prL; rw [List.getElem?_map]
    cases hx : L[j + 1]? with
    | none =>
      rw [hx] at hg
      simp only [bestV, bestD, hx, hg, Option.map_none, ih]
    | some x =>
      rw [hx] at hg
      simp only [bestV, bestD, hx, hg, Option.map_some, ← ih]
      split <;> rfl
theorem bestV_in {L : List OneV} (h : 0 < L.length) : ∀ j, bestV L j ∈ L
  | 0 => by
    cases L with
    | nil => simp at h
    | cons a L => simp [bestV]
  | j + 1 => by
    have ih := bestV_in h j
    cases hx : L[j + 1]? with
    | none => simp only [bestV, hx]; exact ih
    | some x =>
      simp only [bestV, hx]
      split
      · exact List.mem_of_getElem? hx
      · exact ih
theorem bestV_next {L : List OneV} {j : Nat} {x : OneV} (hx : L[j + 1]? = some x) (b : Bool) (hb : decide (BetterD (x.site, x.r) ((bestV L j).site, (bestV L j).r)) = b) : bestV L (j + 1) = if b = true then x else bestV L j := by
  simp only [bestV, hx]
  by_cases h : BetterD (x.site, x.r) ((bestV L j).site, (bestV L j).r)
  · rw [if_pos h, ← hb, if_pos (by simpa using h)]
  · rw [if_neg h, ← hb, if_neg (by simpa using h)]

theorem at_some {α : Type} {l : List α} {j : Nat} (h : j < l.length) : ∃ x, l[j]? = some x := ⟨_, List.getElem?_eq_getElem h⟩

set_option maxHeartbeats 8000000 in
theorem rchosen_any (B g : Nat) (b : BegS) (L : List OneV) (v : Value) (w : World) (H : RefAt w B g b L v) (hn : sitesE b.n = true) (hlog : ∀ x ∈ L, LogAt w w.heap.size x.s x.r.log) :
    Calls Try.prog 43 #[.pointer (some ⟨g, 0, none⟩)] w fun e w' => ∃ s : SlcE, e = .returned (.tuple #[.slice s.1 s.2.1 s.2.2, .int .i64 (chosenD b (prL L)).2.1, .int .i64 (chosenD b (prL L)).2.2]) ∧ LogAt w' w'.heap.size s (chosenD b (prL L)).1 ∧ Below w.heap.size w w' := by
  have hw : Below w.heap.size w w := Below.refl _ _
  have hlen : ∀ x ∈ L, x.s.2.1 = x.r.log.length := fun x hx => (hlog x hx).1
  have HL := Lib.hid (And.intro hlog hlen)
  have HN := Lib.hid hn
  have HR := Lib.hid H
  obtain ⟨hb, hR⟩ := H
  obtain ⟨A, c, rfl, hAc, hc2, hSl⟩ := Gr.Row.form hR
  have FC : ∀ w', Below w.heap.size w w' → w'.cell? ⟨g, 5, none⟩ = some (.slice A L.length c) := fun w' h => (hb.keep h).cell 5
  have HSl := Lib.hid hSl
  have hg := hb.lt
  clear hb hR hSl hlog hlen hn
  go_enter Try.func43, Try.ntmps43
  go_wp2_with fail
  refine (rwon_any B g b L _ w HR.out HN.out).mono ?_
  rintro e w1 ⟨rfl, hb1⟩
  by_cases hwon : majE b.n ≤ (L.length : Int)
  case neg =>
    have hd : decide (majE b.n ≤ (L.length : Int)) = false := decide_eq_false hwon
    have HC : Hid (chosenD b (prL L) = ([], 0, 4)) := Lib.hid (by unfold chosenD; rw [prL_len, if_neg hwon])
    rw [hd]
    clear hwon hd
    go_wp2_with fail
    apply ret_of
    · simp only [results, Try.results43]
      go_simp
      with_reducible rfl
    refine ⟨rfl, ?_⟩
    rw [HC.out]
    exact ⟨no0, rfl, LogAt.nil, hb1⟩
  have hd : decide (majE b.n ≤ (L.length : Int)) = true := decide_eq_true hwon
  have hpos : 0 < L.length := by
    have h1 := hwon
    unfold majE at h1
    rw [if_pos HN.out] at h1
    rcases sites_cases HN.out with e | e | e | e | e | e <;> rw [e] at h1 <;> omega
  have HW := Lib.hid hwon
  rw [hd]
  clear hwon hd
  have t0 := FC _ hb1
  obtain ⟨bA, oA, y, rfl, hy, hbA, FA⟩ := Gr.Sl.at_ HSl.out hpos
  have FS : ∀ (w' : World), Below w.heap.size w w' → ∀ (j : Nat) (z : OneV), L[j]? = some z → w'.cell? ⟨bA, oA + j * 5, none⟩ = some (.int .i64 z.site) ∧ w'.cell? ⟨bA, oA + j * 5 + 1, none⟩ = some (.int .i64 z.r.prom) ∧ w'.cell? ⟨bA, oA + j * 5 + 2, none⟩ = some (.int .i64 z.r.view) ∧ w'.cell? ⟨bA, oA + j * 5 + 3, none⟩ = some (.slice z.s.1 z.s.2.1 z.s.2.2) ∧ w'.cell? ⟨bA, oA + j * 5 + 4, none⟩ = some (.int .i64 z.r.com) := fun w' hw' j z hz => by
    obtain ⟨b2, o2, z2, hA2, hz2, _, F2⟩ := Gr.Sl.at_ HSl.out (List.getElem?_eq_some_iff.1 hz).1
    cases hA2
    have e : z2 = z := by
      have := hz2.out
      rw [hz] at this
      exact (Option.some.inj this).symm
    subst e
    have F3 := F2 w' hw'
    exact ⟨F3 0 (by show 0 < 5; omega), F3 1 (by show 1 < 5; omega), F3 2 (by show 2 < 5; omega), F3 3 (by show 3 < 5; omega), F3 4 (by show 4 < 5; omega)⟩
  clear FA
  have hp0 : (0 : Int) < (L.length : Int) := by omega
  obtain ⟨p0, p1, p2, p3, p4⟩ := FS _ hb1 0 y hy.out
  simp only [Nat.zero_mul, Nat.add_zero] at p0 p1 p2 p3 p4
  have HFS := Lib.hid FS
  clear FS
  have hgb : w.heap.size ≤ w1.heap.size := hb1.size
  have hz0 : bestV L 0 = y := by
    have h1 := hy.out
    cases L with
    | nil => cases h1
    | cons a L => cases h1; rfl
  have B0 : Blk (w1.alloc (.cells (onev (bestV L 0)).toArray 97)) w1.heap.size 97 (onev (bestV L 0)) := Blk.new w1 _ _
  rw [hz0] at B0
  have HB0 := Lib.hid (And.intro (hb1.alloc hgb (.cells (onev y).toArray 97)) B0)
  go_wp2_with fail
  refine abs_code (fun W => Below w.heap.size w W ∧ Blk W w1.heap.size 97 (onev y)) HB0.out ?_
  intro w2 hI2
  have HI2 := Lib.hid hI2
  clear hI2 HB0 B0 t0 p0 p1 p2 p3 p4 hb1
  generalize w1.heap.size = gb at *
  have hFC : ∀ w', Below w.heap.size w w' → w'.cell? ⟨g, 5, none⟩ = some (.slice (some ⟨bA, oA, none⟩) L.length c) := FC
  go_loopg [6] (L.length - 1) (fun q i wr => ∃ j : Nat, q = L.length - j ∧ 1 ≤ j ∧ j ≤ L.length ∧ i = .int .i64 (j : Int) ∧ Below w.heap.size w wr ∧ Blk wr gb 97 (onev (bestV L (j - 1))))
  case atStart => exact ⟨1, rfl, by omega, by omega, rfl, HI2.out.1, by rw [Nat.sub_self, hz0]; exact HI2.out.2⟩
  case round =>
    clear HI2 hz0
    obtain ⟨j, hq, hj1, hj, rfl, hwr, hBr⟩ := hrel
    have AA : Aside (gk = L.length - j) := hq
    clear hq
    obtain ⟨wo, rfl⟩ : ∃ wo, wo = wr := ⟨_, rfl⟩
    have t0 := FC _ hwr
    have hzin := bestV_in hpos (j - 1)
    obtain ⟨z, hz⟩ : ∃ z, bestV L (j - 1) = z := ⟨_, rfl⟩
    rw [hz] at hBr hzin
    have hnz := HL.out.2 z hzin
    have HZ := Lib.hid (And.intro hz hnz)
    by_cases hlt : j < L.length
    · have j0 : (0 : Int) ≤ (j : Int) := by omega
      have j1 : (j : Int) < (L.length : Int) := by omega
      obtain ⟨x, hx⟩ := at_some hlt
      have hnx := HL.out.2 x (List.mem_of_getElem? hx)
      have FX := fun w' hw' => HFS.out w' hw' j x hx
      have HX := Lib.hid (And.intro hx hnx)
      have HBr := Lib.hid hBr
      clear hx hnx hBr hz hnz hzin
      go_wp2_with fail
      refine wp_region_p ([(0, true), (1, true), (2, true), (3, true), (4, true), (5, true), (6, true), (7, true), (8, false)]) (fun w' => Below w.heap.size w w' ∧ Blk w' gb 97 (onev z)) (by kernel_rfl) rfl (by kernel_rfl) (by kernel_rfl) (⟨hwr.drew, HBr.out.drew⟩) rfl ?_
      intro KP RP TP hKP hTP hTP'
      simp only [List.append_eq, List.cons_append, List.nil_append, pick, nth]
      go_wp2_with (first
        | (apply SeqP.skip; rfl; simp only [Act.put, List.setIfInBounds_toArray, List.set_cons_zero, List.set_cons_succ])
        | (apply SeqP.pure; rfl; (intro w2 hw; have hw := hTP _ hw; exact exec_load_blk 97 _ rfl _ rfl _ _ hw.2 _ Try.underlying97 rfl one_info); simp only [Act.put, List.setIfInBounds_toArray, List.set_cons_zero, List.set_cons_succ])
        | (apply SeqP.call; rfl; rfl; (intro w2 hw; have hw := hTP _ hw; ((obtain ⟨p0, p1, p2, p3, p4⟩ := FX _ hw.1; have q5 := FC _ hw.1)); go_simp; exact ⟨rfl, rfl⟩); (intro w2 hw; have hw := hTP _ hw; ((obtain ⟨p0, p1, p2, p3, p4⟩ := FX _ hw.1; have q5 := FC _ hw.1)); (first | fail)); simp only [Act.put, List.setIfInBounds_toArray, List.set_cons_zero, List.set_cons_succ])
        | (apply SeqP.pure; rfl; (intro w2 hw; have hw := hTP _ hw; ((obtain ⟨p0, p1, p2, p3, p4⟩ := FX _ hw.1; have q5 := FC _ hw.1)); go_simp; with_reducible rfl); simp only [Act.put, List.setIfInBounds_toArray, List.set_cons_zero, List.set_cons_succ])
        | (apply SeqP.split; rfl; rfl; all_goals (intro hc; simp only [hc]; try simp only [beq_iff_eq, decide_eq_true_eq, beq_eq_false_iff_ne, decide_eq_false_iff_not, bne_iff_ne, ne_eq, Bool.not_eq_true', Bool.not_eq_false', Int.not_le, Int.not_lt, bne_eq_false_iff_eq, Bool.or_eq_true, Bool.and_eq_true, Bool.or_eq_false_iff] at hc)))
      apply SeqP.eff
      · rfl
      intro KE hKE
      go_wp2_with fail
      refine (rbetter_any x z _ HX.out.2 HZ.out.2).mono ?_
      rintro e w3 ⟨rfl, hb3⟩
      have hw3 := below_trans hwr.drew hb3 hwr.drew.size
      have HB3 := Lib.hid (HBr.out.drew.keep hb3)
      refine hKE _ _ (hTP' _ ⟨hw3, HB3.out⟩) ?_
      clear hKE hb3 HBr hwr
      have hnext := bestV_next (L := L) (j := j - 1) (x := x) (by rw [Nat.sub_add_cancel hj1]; exact HX.out.1)
      rw [HZ.out.1, Nat.sub_add_cancel hj1] at hnext
      cases hbt : decide (BetterD (x.site, x.r) (z.site, z.r)) with
      | false =>
        have HE := Lib.hid (hnext _ hbt)
        clear hbt hnext
        go_wp2_with (first
          | (apply SeqP.skip; rfl; simp only [Act.put, List.setIfInBounds_toArray, List.set_cons_zero, List.set_cons_succ])
          | (apply SeqP.call; rfl; rfl; (intro w2 hw; have hw := hTP _ hw; (skip); go_simp; exact ⟨rfl, rfl⟩); (intro w2 hw; have hw := hTP _ hw; (skip); (first | fail)); simp only [Act.put, List.setIfInBounds_toArray, List.set_cons_zero, List.set_cons_succ])
          | (apply SeqP.pure; rfl; (intro w2 hw; have hw := hTP _ hw; (skip); go_simp; with_reducible rfl); simp only [Act.put, List.setIfInBounds_toArray, List.set_cons_zero, List.set_cons_succ])
          | (apply SeqP.split; rfl; rfl; all_goals (intro hc; simp only [hc]; try simp only [beq_iff_eq, decide_eq_true_eq, beq_eq_false_iff_ne, decide_eq_false_iff_not, bne_iff_ne, ne_eq, Bool.not_eq_true', Bool.not_eq_false', Int.not_le, Int.not_lt, bne_eq_false_iff_eq, Bool.or_eq_true, Bool.and_eq_true, Bool.or_eq_false_iff] at hc)))
        apply SeqP.nil
        refine hKP _ _ (hTP' _ (⟨hw3, HB3.out⟩)) ?_
        clear hKP hTP hTP'
        go_wp2_with fail
        go_roundg (L.length - (j + 1))
        case measure => have hkk := AA.out; omega
        case rel => exact ⟨j + 1, rfl, by omega, by omega, by go_num, hw3, by rw [Nat.add_sub_cancel, HE.out]; exact HB3.out⟩
      | true =>
        have HE := Lib.hid (hnext _ hbt)
        clear hbt hnext
        go_wp2_with (first
          | (apply SeqP.skip; rfl; simp only [Act.put, List.setIfInBounds_toArray, List.set_cons_zero, List.set_cons_succ])
          | (apply SeqP.call; rfl; rfl; (intro w2 hw; have hw := hTP _ hw; (skip); go_simp; exact ⟨rfl, rfl⟩); (intro w2 hw; have hw := hTP _ hw; (skip); (first | fail)); simp only [Act.put, List.setIfInBounds_toArray, List.set_cons_zero, List.set_cons_succ])
          | (apply SeqP.pure; rfl; (intro w2 hw; have hw := hTP _ hw; (skip); go_simp; with_reducible rfl); simp only [Act.put, List.setIfInBounds_toArray, List.set_cons_zero, List.set_cons_succ])
          | (apply SeqP.split; rfl; rfl; all_goals (intro hc; simp only [hc]; try simp only [beq_iff_eq, decide_eq_true_eq, beq_eq_false_iff_ne, decide_eq_false_iff_not, bne_iff_ne, ne_eq, Bool.not_eq_true', Bool.not_eq_false', Int.not_le, Int.not_lt, bne_eq_false_iff_eq, Bool.or_eq_true, Bool.and_eq_true, Bool.or_eq_false_iff] at hc)))
        apply SeqP.nil
        refine hKP _ _ (hTP' _ (⟨hw3, HB3.out⟩)) ?_
        clear hKP hTP hTP'
        obtain ⟨p0, p1, p2, p3, p4⟩ := FX _ hw3
        have t3 := FC _ hw3
        go_wp2_with ((with_reducible refine at_list ?_); first | (refine wpList_store_own rfl 97 _ _ rfl _ (onev x) rfl rfl _ _ (HB3.out) one_info rfl (onev_one _) ?_; intro w5 B5 g5))
        have hw5 := hw3.trans (below_grown g5 hgb hw3.size)
        have HB5 := Lib.hid B5
        clear B5 g5 HB3 hw3 p0 p1 p2 p3 p4
        go_roundg (L.length - (j + 1))
        case measure => have hkk := AA.out; omega
        case rel => exact ⟨j + 1, rfl, by omega, by omega, by go_num, hw5, by rw [Nat.add_sub_cancel, HE.out]; exact HB5.out⟩
    · obtain rfl : j = L.length := by omega
      have j1 : ¬ (L.length : Int) < (L.length : Int) := by omega
      have HBr := Lib.hid hBr
      have HZL := Lib.hid (HL.out.1 z hzin)
      have hzp := bestV_pr L (L.length - 1)
      rw [hz] at hzp
      have HZP := Lib.hid hzp
      clear hBr hz hnz hzin hzp
      have hB2 : Blk wo gb 97 [.int .i64 z.site, .int .i64 z.r.prom, .int .i64 z.r.view, .slice z.s.1 z.s.2.1 z.s.2.2, .int .i64 z.r.com] := HBr.out
      obtain ⟨nn, hnn⟩ : ∃ nn, z.s.2.1 = nn := ⟨_, rfl⟩
      rw [hnn] at hB2
      have HNN := Lib.hid hnn
      have HBr := Lib.hid hB2
      clear hB2 hnn
      go_wp2_with fail
      go_loopg [7, 8] L.length (fun q cm ix wr => ∃ j : Nat, q = L.length - j ∧ j ≤ L.length ∧ cm = .int .i64 (comTo nn 0 ((L.map fun x => x.r).take j)) ∧ ix = .int .i64 j ∧ Below w.heap.size w wr ∧ Blk wr gb 97 [.int .i64 z.site, .int .i64 z.r.prom, .int .i64 z.r.view, .slice z.s.1 nn z.s.2.2, .int .i64 z.r.com])
      case atStart => exact ⟨0, rfl, by omega, rfl, rfl, hwr, HBr.out⟩
      case round =>
        clear HBr hwr t0 j1 AA
        obtain ⟨j, hq, hj, rfl, rfl, hwr, hBr⟩ := hrel
        have AA : Aside (gk = L.length - j) := hq
        clear hq
        obtain ⟨wo, rfl⟩ : ∃ wo, wo = wr := ⟨_, rfl⟩
        have HBr := Lib.hid hBr
        clear hBr
        have t0 := FC _ hwr
        by_cases hlt : j < L.length
        · have j0 : (0 : Int) ≤ (j : Int) := by omega
          have j1 : (j : Int) < (L.length : Int) := by omega
          obtain ⟨x, hx⟩ := at_some hlt
          have FX : ∀ w', Below w.heap.size w w' → w'.cell? ⟨bA, oA + j * 5 + 4, none⟩ = some (.int .i64 x.r.com) := fun w' hw' => (HFS.out w' hw' j x hx).2.2.2.2
          have hsn := comTo_snoc nn 0 ((L.map fun x => x.r).take j) x.r
          have htk : (L.map fun x => x.r).take (j + 1) = (L.map fun x => x.r).take j ++ [x.r] := by
            rw [List.take_add_one, List.getElem?_map, hx]
            rfl
          rw [← htk] at hsn
          have HSN := Lib.hid hsn
          clear hsn htk hx
          generalize comTo nn 0 ((L.map fun x => x.r).take j) = cj at HSN ⊢
          generalize x.r.com = rc at FX HSN
          have hcases : (rc ≤ (nn : Int) ∧ cj < rc) ∨ (rc ≤ (nn : Int) ∧ ¬ cj < rc) ∨ ¬ rc ≤ (nn : Int) := by omega
          rcases hcases with ⟨hcm, hmx⟩ | ⟨hcm, hmx⟩ | hcm
          · have HE := Lib.hid (HSN.out.trans ((if_pos hcm).trans (show max cj rc = rc by omega)))
            clear HSN
            have e1 : decide (rc ≤ (nn : Int)) = true := decide_eq_true hcm
            have e2 : decide (cj < rc) = true := decide_eq_true hmx
            go_wp2_with fail
            refine wp_region_p ([(0, true), (1, true), (2, true), (3, true), (4, true), (5, true), (6, true), (7, true), (8, true), (9, true), (10, true), (11, true), (12, true), (13, true), (14, true), (15, true), (16, true), (17, true), (18, true), (19, true), (20, true), (21, true), (22, true), (23, true), (24, true), (25, true), (26, true)]) (fun w' => Below w.heap.size w w' ∧ Blk w' gb 97 [.int .i64 z.site, .int .i64 z.r.prom, .int .i64 z.r.view, .slice z.s.1 nn z.s.2.2, .int .i64 z.r.com]) (by kernel_rfl) rfl (by kernel_rfl) (by kernel_rfl) (⟨hwr.drew, HBr.out.drew⟩) rfl ?_
            intro KP RP TP hKP hTP hTP'
            simp only [List.append_eq, List.cons_append, List.nil_append, pick, nth]
            go_wp2_with (first
              | (apply SeqP.skip; rfl; simp only [Act.put, List.setIfInBounds_toArray, List.set_cons_zero, List.set_cons_succ])
              | (apply SeqP.call; rfl; rfl; (intro w2 hw; have hw := hTP _ hw; ((have p4 := FX _ hw.1; have q5 := FC _ hw.1; have z3 := hw.2.cell 3; simp at z3)); go_simp; exact ⟨rfl, rfl⟩); (intro w2 hw; have hw := hTP _ hw; ((have p4 := FX _ hw.1; have q5 := FC _ hw.1; have z3 := hw.2.cell 3; simp at z3)); (first | fail)); simp only [Act.put, List.setIfInBounds_toArray, List.set_cons_zero, List.set_cons_succ])
              | (apply SeqP.pure; rfl; (intro w2 hw; have hw := hTP _ hw; ((have p4 := FX _ hw.1; have q5 := FC _ hw.1; have z3 := hw.2.cell 3; simp at z3)); go_simp; with_reducible rfl); simp only [Act.put, List.setIfInBounds_toArray, List.set_cons_zero, List.set_cons_succ])
              | (apply SeqP.split; rfl; rfl; all_goals (intro hc; simp only [hc]; try simp only [beq_iff_eq, decide_eq_true_eq, beq_eq_false_iff_ne, decide_eq_false_iff_not, bne_iff_ne, ne_eq, Bool.not_eq_true', Bool.not_eq_false', Int.not_le, Int.not_lt, bne_eq_false_iff_eq, Bool.or_eq_true, Bool.and_eq_true, Bool.or_eq_false_iff] at hc)))
            apply SeqP.nil
            refine hKP _ _ (hTP' _ (⟨hwr.drew, HBr.out.drew⟩)) ?_
            clear hKP hTP hTP'
            have hwd := hwr.drew
            have HBd := Lib.hid HBr.out.drew
            have p4 := FX _ hwd
            have t4 := FC _ hwd
            go_wp2_with fail
            go_roundg (L.length - (j + 1))
            case measure => have hkk := AA.out; omega
            case rel => exact ⟨j + 1, rfl, by omega, by rw [HE.out], by go_num, hwd, HBd.out⟩
          · have HE := Lib.hid (HSN.out.trans ((if_pos hcm).trans (show max cj rc = cj by omega)))
            clear HSN
            have e1 : decide (rc ≤ (nn : Int)) = true := decide_eq_true hcm
            have e2 : decide (cj < rc) = false := decide_eq_false hmx
            go_wp2_with fail
            refine wp_region_p ([(0, true), (1, true), (2, true), (3, true), (4, true), (5, true), (6, true), (7, true), (8, true), (9, true), (10, true), (11, true), (12, true), (13, true), (14, true), (15, true), (16, true), (17, true), (18, true), (19, true), (20, true), (21, true), (22, true), (23, true), (24, true), (25, true), (26, true)]) (fun w' => Below w.heap.size w w' ∧ Blk w' gb 97 [.int .i64 z.site, .int .i64 z.r.prom, .int .i64 z.r.view, .slice z.s.1 nn z.s.2.2, .int .i64 z.r.com]) (by kernel_rfl) rfl (by kernel_rfl) (by kernel_rfl) (⟨hwr.drew, HBr.out.drew⟩) rfl ?_
            intro KP RP TP hKP hTP hTP'
            simp only [List.append_eq, List.cons_append, List.nil_append, pick, nth]
            go_wp2_with (first
              | (apply SeqP.skip; rfl; simp only [Act.put, List.setIfInBounds_toArray, List.set_cons_zero, List.set_cons_succ])
              | (apply SeqP.call; rfl; rfl; (intro w2 hw; have hw := hTP _ hw; ((have p4 := FX _ hw.1; have q5 := FC _ hw.1; have z3 := hw.2.cell 3; simp at z3)); go_simp; exact ⟨rfl, rfl⟩); (intro w2 hw; have hw := hTP _ hw; ((have p4 := FX _ hw.1; have q5 := FC _ hw.1; have z3 := hw.2.cell 3; simp at z3)); (first | fail)); simp only [Act.put, List.setIfInBounds_toArray, List.set_cons_zero, List.set_cons_succ])
              | (apply SeqP.pure; rfl; (intro w2 hw; have hw := hTP _ hw; ((have p4 := FX _ hw.1; have q5 := FC _ hw.1; have z3 := hw.2.cell 3; simp at z3)); go_simp; with_reducible rfl); simp only [Act.put, List.setIfInBounds_toArray, List.set_cons_zero, List.set_cons_succ])
              | (apply SeqP.split; rfl; rfl; all_goals (intro hc; simp only [hc]; try simp only [beq_iff_eq, decide_eq_true_eq, beq_eq_false_iff_ne, decide_eq_false_iff_not, bne_iff_ne, ne_eq, Bool.not_eq_true', Bool.not_eq_false', Int.not_le, Int.not_lt, bne_eq_false_iff_eq, Bool.or_eq_true, Bool.and_eq_true, Bool.or_eq_false_iff] at hc)))
            apply SeqP.nil
            refine hKP _ _ (hTP' _ (⟨hwr.drew, HBr.out.drew⟩)) ?_
            clear hKP hTP hTP'
            have hwd := hwr.drew
            have HBd := Lib.hid HBr.out.drew
            have p4 := FX _ hwd
            have t4 := FC _ hwd
            go_wp2_with fail
            go_roundg (L.length - (j + 1))
            case measure => have hkk := AA.out; omega
            case rel => exact ⟨j + 1, rfl, by omega, by rw [HE.out], by go_num, hwd, HBd.out⟩
          · have HE := Lib.hid (HSN.out.trans (if_neg hcm))
            clear HSN
            have e1 : decide (rc ≤ (nn : Int)) = false := decide_eq_false hcm
            skip
            go_wp2_with fail
            refine wp_region_p ([(0, true), (1, true), (2, true), (3, true), (4, true), (5, true), (6, true), (7, true), (8, true), (9, true), (10, true), (11, true), (12, true), (13, true), (14, true), (15, true), (16, true), (17, true), (18, true), (19, true), (20, true), (21, true), (22, true), (23, true), (24, true), (25, true), (26, true)]) (fun w' => Below w.heap.size w w' ∧ Blk w' gb 97 [.int .i64 z.site, .int .i64 z.r.prom, .int .i64 z.r.view, .slice z.s.1 nn z.s.2.2, .int .i64 z.r.com]) (by kernel_rfl) rfl (by kernel_rfl) (by kernel_rfl) (⟨hwr.drew, HBr.out.drew⟩) rfl ?_
            intro KP RP TP hKP hTP hTP'
            simp only [List.append_eq, List.cons_append, List.nil_append, pick, nth]
            go_wp2_with (first
              | (apply SeqP.skip; rfl; simp only [Act.put, List.setIfInBounds_toArray, List.set_cons_zero, List.set_cons_succ])
              | (apply SeqP.call; rfl; rfl; (intro w2 hw; have hw := hTP _ hw; ((have p4 := FX _ hw.1; have q5 := FC _ hw.1; have z3 := hw.2.cell 3; simp at z3)); go_simp; exact ⟨rfl, rfl⟩); (intro w2 hw; have hw := hTP _ hw; ((have p4 := FX _ hw.1; have q5 := FC _ hw.1; have z3 := hw.2.cell 3; simp at z3)); (first | fail)); simp only [Act.put, List.setIfInBounds_toArray, List.set_cons_zero, List.set_cons_succ])
              | (apply SeqP.pure; rfl; (intro w2 hw; have hw := hTP _ hw; ((have p4 := FX _ hw.1; have q5 := FC _ hw.1; have z3 := hw.2.cell 3; simp at z3)); go_simp; with_reducible rfl); simp only [Act.put, List.setIfInBounds_toArray, List.set_cons_zero, List.set_cons_succ])
              | (apply SeqP.split; rfl; rfl; all_goals (intro hc; simp only [hc]; try simp only [beq_iff_eq, decide_eq_true_eq, beq_eq_false_iff_ne, decide_eq_false_iff_not, bne_iff_ne, ne_eq, Bool.not_eq_true', Bool.not_eq_false', Int.not_le, Int.not_lt, bne_eq_false_iff_eq, Bool.or_eq_true, Bool.and_eq_true, Bool.or_eq_false_iff] at hc)))
            apply SeqP.nil
            refine hKP _ _ (hTP' _ (⟨hwr.drew, HBr.out.drew⟩)) ?_
            clear hKP hTP hTP'
            have hwd := hwr.drew
            have HBd := Lib.hid HBr.out.drew
            have p4 := FX _ hwd
            have t4 := FC _ hwd
            go_wp2_with fail
            go_roundg (L.length - (j + 1))
            case measure => have hkk := AA.out; omega
            case rel => exact ⟨j + 1, rfl, by omega, by rw [HE.out], by go_num, hwd, HBd.out⟩
        · obtain rfl : j = L.length := by omega
          have j1 : ¬ (L.length : Int) < (L.length : Int) := by omega
          have hcc : chosenD b (prL L) = (z.r.log, comTo nn 0 ((L.map fun x => x.r).take L.length), 0) := by
            unfold chosenD
            rw [prL_len, if_pos HW.out, ← HZP.out, ← HZ.out.2, HNN.out]
            have : (prL L).map (·.2) = L.map fun x => x.r := by unfold prL; rw [List.map_map]; rfl
            rw [this, List.take_of_length_le (Nat.le_of_eq (List.length_map _))]
          have HC := Lib.hid hcc
          clear hcc
          generalize comTo nn 0 ((L.map fun x => x.r).take L.length) = cj at HC ⊢
          have z3 := HBr.out.cell 3
          simp at z3
          have HZL2 := HZL.out.keep hwr
          have HF := Lib.hid (And.intro HZL2 hwr)
          clear HZL2
          go_wp2_with fail
          apply ret_of
          · simp only [results, Try.results43]
            go_simp
            with_reducible rfl
          refine ⟨rfl, ?_⟩
          rw [HC.out]
          exact ⟨z.s.1, nn, z.s.2.2, rfl, by rw [← HNN.out]; exact HF.out.1, HF.out.2⟩
end Go.Proofs.Ytbicefilfhcgoaa

set_option linter.unusedSimpArgs false
set_option linter.unusedVariables false
set_option maxRecDepth 100000
namespace Go.Proofs.Ytbicefilfhcgoaa
open Go Go.RowKit Go.Sq Go.Wd Go.Arch

def askV (m : MailS) : MailV := ⟨m, no0, (0, 0, 0, 0, 0), (0, 0, 0)⟩
theorem askV_enc (b : BegS) (i : Int) : mailv (askV (askOf b i)) = [.int .i64 1, .int .i64 b.site, .int .i64 i, .int .i64 b.stream, .int .i64 b.epoch, .int .i64 0, .int .i64 0, .int .i64 0, .int .i64 b.stamp, .slice none 0 0, .int .i64 0, .int .i64 0, .int .i64 0, .int .i64 0, .int .i64 0, .int .i64 0, .int .i64 0, .int .i64 0] := rfl

set_option maxHeartbeats 2000000 in
theorem bmail_any (g : Nat) (b : BegS) (S : Slots) (sl : Sls) (w : World) (hb : Blk w g 85 (balv b S sl)) (n : Nat) (hn : b.n = n) (h0 : 0 < n) (h7 : n ≤ 7) :
    Calls Try.prog 34 #[.pointer (some ⟨g, 0, none⟩)] w fun e w' => ∃ v, e = .returned v ∧ Gr.Row mailE w' w.heap.size v ((askTo b n).map askV) ∧ Below w.heap.size w w' := by
  have hw : Below w.heap.size w w := Below.refl _ _
  have hz : ((n : Int) == 0) = false := by rw [beq_eq_false_iff_ne]; omega
  have hg := hb.lt
  have H := Lib.hid hb
  have FC : ∀ w', Below w.heap.size w w' → w'.cell? ⟨g, 0, none⟩ = some (.int .i64 b.stream) ∧ w'.cell? ⟨g, 1, none⟩ = some (.int .i64 b.epoch) ∧ w'.cell? ⟨g, 2, none⟩ = some (.int .i64 b.site) ∧ w'.cell? ⟨g, 3, none⟩ = some (.int .i64 (n : Int)) ∧ w'.cell? ⟨g, 4, none⟩ = some (.int .i64 b.stamp) := fun w' h =>
    ⟨(H.out.keep h).cell 0, (H.out.keep h).cell 1, (H.out.keep h).cell 2, by rw [← hn]; exact (H.out.keep h).cell 3, (H.out.keep h).cell 4⟩
  have HN := Lib.hid hn
  clear hb hn
  obtain ⟨c0, c1, c2, c3, c4⟩ := FC _ hw
  go_enter Try.func34, Try.ntmps34
  go_wp2_with fail
  refine (none_any g n w c3).mono ?_
  rintro e w1 ⟨rfl, rfl⟩
  rw [hz]
  clear c0 c1 c2 c4
  go_wp2_with fail
  clear c3
  go_loopg [3, 11] n (fun q v i wr => ∃ j : Nat, q = n - j ∧ j ≤ n ∧ i = .int .i64 j ∧ Below w1.heap.size w1 wr ∧ Gr.Row mailE wr w1.heap.size v ((askTo b j).map askV))
  case atStart => exact ⟨0, rfl, by omega, rfl, hw, Gr.Row.nil (R := mailE) w1 _⟩
  case round =>
    clear hw
    obtain ⟨j, hq, hj, rfl, hwr, hR⟩ := hrel
    have AA : Aside (gk = n - j) := hq
    clear hq
    obtain ⟨wo, rfl⟩ : ∃ wo, wo = wr := ⟨_, rfl⟩
    by_cases hlt : j < n
    · have hi7 : (j : Int) < (n : Int) := by omega
      have hi0 : (0 : Int) ≤ (j : Int) := by omega
      obtain ⟨c0, c1, c2, c3, c4⟩ := FC _ hwr
      by_cases hs : (j : Int) = b.site
      · have HS := Lib.hid hs
        have hne : ((j : Int) != b.site) = false := by simpa using hs
        clear hs
        go_wp2_with fail
        go_roundg (n - (j + 1))
        case measure => have hkk := AA.out; omega
        case rel => exact ⟨j + 1, rfl, by omega, by go_num, hwr, by rw [askTo_no HS.out]; exact hR⟩
      · have HS := Lib.hid hs
        have hne : ((j : Int) != b.site) = true := by simpa using hs
        clear hs
        have hl9 : ((askTo b j).map askV).length ≤ 7 := by
          rw [List.length_map]
          have := askTo_len b j
          split at this <;> omega
        have hwd := hwr.drew
        have hRd := Gr.Row.keep hR (Below.refl _ _).drew
        obtain ⟨v2, w2, hrun, hR2, hg2, _⟩ := Gr.Row.snoc hRd (askV (askOf b j)) (by omega) hwd.size (H := wo.drew.heap.size) rfl 54
        have hb2 := Gr.below_row hwd hg2 hRd hwd.size
        rw [show ((askTo b j).map askV ++ [askV (askOf b j)]) = (askTo b (j + 1)).map askV by rw [askTo_yes HS.out, List.map_append]; rfl] at hR2
        have HR2 := Lib.hid (And.intro hR2 hb2)
        clear hg2 hR hRd hl9 hR2 hb2
        have hrun' : (Builtin.append_ #[54, 54] 54 #[u3, .slice (some ⟨wo.drew.heap.size, 0, none⟩) 1 1]).run Try.prog (wo.drew.alloc (.cells #[.int .i64 1, .int .i64 b.site, .int .i64 (j : Int), .int .i64 b.stream, .int .i64 b.epoch, .int .i64 0, .int .i64 0, .int .i64 0, .int .i64 b.stamp, .slice none 0 0, .int .i64 0, .int .i64 0, .int .i64 0, .int .i64 0, .int .i64 0, .int .i64 0, .int .i64 0, .int .i64 0] 65)) = .ok v2 w2 := hrun
        clear hrun
        go_wp2_with fail
        refine wp_region_p ([(0, true), (1, true), (2, true), (3, true), (4, true), (5, true), (6, true), (7, true), (8, true), (9, true), (10, true), (11, true), (12, true), (13, true), (14, true), (15, true), (16, true), (17, true), (18, true), (19, false), (20, false), (21, true)]) (fun w' => Below w1.heap.size w1 w') (by kernel_rfl) rfl (by kernel_rfl) (by kernel_rfl) (hwd) rfl ?_
        intro KP RP TP hKP hTP hTP'
        simp only [List.append_eq, List.cons_append, List.nil_append, pick, nth]
        go_wp2_with (first
          | (apply SeqP.skip; rfl; simp only [Act.put, List.setIfInBounds_toArray, List.set_cons_zero, List.set_cons_succ])
          | (apply SeqP.call; rfl; rfl; (intro w2 hw; have hw := hTP _ hw; ((obtain ⟨q0, q1, q2, q3, q4⟩ := FC _ hw)); go_simp; exact ⟨rfl, rfl⟩); (intro w2 hw; have hw := hTP _ hw; ((obtain ⟨q0, q1, q2, q3, q4⟩ := FC _ hw)); (first | fail)); simp only [Act.put, List.setIfInBounds_toArray, List.set_cons_zero, List.set_cons_succ])
          | (apply SeqP.pure; rfl; (intro w2 hw; have hw := hTP _ hw; ((obtain ⟨q0, q1, q2, q3, q4⟩ := FC _ hw)); go_simp; with_reducible rfl); simp only [Act.put, List.setIfInBounds_toArray, List.set_cons_zero, List.set_cons_succ])
          | (apply SeqP.split; rfl; rfl; all_goals (intro hc; simp only [hc]; try simp only [beq_iff_eq, decide_eq_true_eq, beq_eq_false_iff_ne, decide_eq_false_iff_not, bne_iff_ne, ne_eq, Bool.not_eq_true', Bool.not_eq_false', Int.not_le, Int.not_lt, bne_eq_false_iff_eq, Bool.or_eq_true, Bool.and_eq_true, Bool.or_eq_false_iff] at hc)))
        apply SeqP.eff
        · rfl
        intro KE hKE
        go_wp2_with fail
        refine hKE _ _ (hTP' _ (hwd.alloc hwd.size _)) ?_
        clear hKE KE
        go_wp2_with (first
          | (apply SeqP.skip; rfl; simp only [Act.put, List.setIfInBounds_toArray, List.set_cons_zero, List.set_cons_succ])
          | (apply SeqP.call; rfl; rfl; (intro w2 hw; have hw := hTP _ hw; ((obtain ⟨q0, q1, q2, q3, q4⟩ := FC _ hw)); go_simp; exact ⟨rfl, rfl⟩); (intro w2 hw; have hw := hTP _ hw; ((obtain ⟨q0, q1, q2, q3, q4⟩ := FC _ hw)); (first | fail)); simp only [Act.put, List.setIfInBounds_toArray, List.set_cons_zero, List.set_cons_succ])
          | (apply SeqP.pure; rfl; (intro w2 hw; have hw := hTP _ hw; ((obtain ⟨q0, q1, q2, q3, q4⟩ := FC _ hw)); go_simp; with_reducible rfl); simp only [Act.put, List.setIfInBounds_toArray, List.set_cons_zero, List.set_cons_succ])
          | (apply SeqP.split; rfl; rfl; all_goals (intro hc; simp only [hc]; try simp only [beq_iff_eq, decide_eq_true_eq, beq_eq_false_iff_ne, decide_eq_false_iff_not, bne_iff_ne, ne_eq, Bool.not_eq_true', Bool.not_eq_false', Int.not_le, Int.not_lt, bne_eq_false_iff_eq, Bool.or_eq_true, Bool.and_eq_true, Bool.or_eq_false_iff] at hc)))
        apply SeqP.eff
        · rfl
        intro KE hKE
        refine oper_app (by rfl) (by rfl) (by rfl) hrun' ?_
        refine hKE _ _ (hTP' _ HR2.out.2) ?_
        clear hKE KE
        go_wp2_with (first
          | (apply SeqP.skip; rfl; simp only [Act.put, List.setIfInBounds_toArray, List.set_cons_zero, List.set_cons_succ])
          | (apply SeqP.call; rfl; rfl; (intro w2 hw; have hw := hTP _ hw; ((obtain ⟨q0, q1, q2, q3, q4⟩ := FC _ hw)); go_simp; exact ⟨rfl, rfl⟩); (intro w2 hw; have hw := hTP _ hw; ((obtain ⟨q0, q1, q2, q3, q4⟩ := FC _ hw)); (first | fail)); simp only [Act.put, List.setIfInBounds_toArray, List.set_cons_zero, List.set_cons_succ])
          | (apply SeqP.pure; rfl; (intro w2 hw; have hw := hTP _ hw; ((obtain ⟨q0, q1, q2, q3, q4⟩ := FC _ hw)); go_simp; with_reducible rfl); simp only [Act.put, List.setIfInBounds_toArray, List.set_cons_zero, List.set_cons_succ])
          | (apply SeqP.split; rfl; rfl; all_goals (intro hc; simp only [hc]; try simp only [beq_iff_eq, decide_eq_true_eq, beq_eq_false_iff_ne, decide_eq_false_iff_not, bne_iff_ne, ne_eq, Bool.not_eq_true', Bool.not_eq_false', Int.not_le, Int.not_lt, bne_eq_false_iff_eq, Bool.or_eq_true, Bool.and_eq_true, Bool.or_eq_false_iff] at hc)))
        apply SeqP.nil
        refine hKP _ _ (hTP' _ (HR2.out.2)) ?_
        clear hKP hTP hTP'
        go_wp2_with fail
        go_roundg (n - (j + 1))
        case measure => have hkk := AA.out; omega
        case rel => exact ⟨j + 1, rfl, by omega, by go_num, HR2.out.2, HR2.out.1⟩
    · have hj' : j = n := by omega
      subst hj'
      obtain ⟨c0, c1, c2, c3, c4⟩ := FC _ hwr
      go_wp2_with fail
      go_ret
      exact ⟨_, rfl, hR, hwr⟩
end Go.Proofs.Ytbicefilfhcgoaa

set_option linter.unusedSimpArgs false
set_option linter.unusedVariables false
set_option maxRecDepth 100000
namespace Go.Proofs.Ytbicefilfhcgoaa
open Go Go.RowKit Go.Sq Go.Wd Go.Arch

def bL : BegS := ⟨0, 2, 1, 3, 7⟩
def ownL : RegS := ⟨2, 0, [], 0⟩
def SL : Slots := put7 no7 1 ownL
def pL : MailS := ⟨2, 0, 1, 0, 2, 0, 0, 0, 7, []⟩
def pLV : MailV := ⟨pL, no0, (0, 0, 0, 0, 0), (0, 0, 0)⟩
theorem okL : newOk bL ownL := by decide
theorem noL : ¬ newOk ⟨0, 3, 1, 3, 7⟩ ⟨3, 0, [], 0⟩ := by decide
theorem addL : addOk bL SL pL := by decide
theorem wonL : wonS bL SL = false := by decide
theorem chL : chosenS bL SL = ([], 0, 4) := by unfold chosenS; rw [wonL]; rfl
theorem twL : ¬ addOk bL (addS bL SL pL) pL := by decide
theorem wonL2 : wonS bL (addS bL SL pL) = true := by decide
theorem chL2 : chosenS bL (addS bL SL pL) = ([], 0, 0) := by
  unfold chosenS
  rw [wonL2]
  rfl
theorem askL : (askTo bL 3).map askV = [askV (askOf bL 0), askV (askOf bL 2)] := rfl

theorem abs_calls {P : Program} {f : Nat} {args : Array Value} {w : World} {Q : Ending → World → Prop} (S : World → Prop) (hS : S w) (h : ∀ w', S w' → Calls P f args w' Q) : Calls P f args w Q := h w hS

set_option maxHeartbeats 8000000 in
theorem lives18_any (w : World) : Calls Try.prog 29 #[] w fun e w' => e = .returned (.bool true) ∧ Below w.heap.size w w' := by
  have hn1 := new_any bL ownL no0 w LogAt.nil (by simp [ownL])
  have H1 := Lib.hid hn1
  clear hn1
  go_enter Try.func29, Try.ntmps29
  go_wp2_with fail
  refine H1.out.mono ?_
  clear H1
  rintro e w1 (⟨_, g, rfl, hgw, hB, hb⟩ | ⟨hno, _⟩)
  case inr => exact absurd okL hno
  have hB1 : BalAt w1 w.heap.size g bL SL := hB
  have H1 := Lib.hid (And.intro hB1 (And.intro hb hgw))
  clear hB hB1 hb hgw
  go_wp2_with fail
  have hlog1 : ∀ i, i < 7 → (regOf SL i).log.length ≤ 64 := fun i hi => by
    rcases cases7 hi with rfl | rfl | rfl | rfl | rfl | rfl | rfl <;> decide
  refine (chosen_any w.heap.size g bL SL w1 H1.out.1 (by decide) hlog1).mono ?_
  rintro e w2 ⟨v2, rfl, _, hb2⟩
  clear hlog1
  rw [chL]
  have hw2 := below_trans H1.out.2.1 hb2 H1.out.2.1.size
  have B2 := H1.out.1.keep hb2
  have H2 := Lib.hid (And.intro B2 (And.intro hw2 H1.out.2.2))
  clear B2 hw2 H1 hb2
  go_wp2_with fail
  obtain ⟨sl2, hbk2, _⟩ := H2.out.1
  refine (bmail_any g bL SL sl2 w2 hbk2 3 rfl (by decide) (by decide)).mono ?_
  rintro e w3 ⟨v3, rfl, hR3, hb3⟩
  clear hbk2
  rw [askL] at hR3
  have hw3 := below_trans H2.out.2.1 hb3 H2.out.2.1.size
  have B3 := H2.out.1.keep hb3
  have H3 := Lib.hid (And.intro B3 (And.intro hw3 (And.intro H2.out.2.2 (hR3.base H2.out.2.1.size))))
  clear B3 hw3 H2 hb3 hR3
  go_wp2_with fail
  have hp0 : Below w3.heap.size w3 (w3.alloc (.cells (mailv pLV).toArray 65)) := (Below.refl _ _).alloc (Nat.le_refl _) _
  have BP := Blk.new w3 65 (mailv pLV)
  have lg := H3.out.1.lt
  have hgp : g ≠ w3.heap.size := by omega
  have H4 := Lib.hid (show BalAt (w3.alloc (.cells (mailv pLV).toArray 65)) w.heap.size g bL SL ∧ Below w.heap.size w (w3.alloc (.cells (mailv pLV).toArray 65)) ∧ w.heap.size ≤ g ∧ Gr.Row mailE (w3.alloc (.cells (mailv pLV).toArray 65)) w.heap.size v3 [askV (askOf bL 0), askV (askOf bL 2)] ∧ Blk (w3.alloc (.cells (mailv pLV).toArray 65)) w3.heap.size 65 (mailv pLV) from
    ⟨H3.out.1.keep hp0, below_trans H3.out.2.1 hp0 H3.out.2.1.size, H3.out.2.2.1, H3.out.2.2.2.keep hp0, BP⟩)
  clear hp0 BP H3 lg
  generalize w3.heap.size = gp at *
  refine abs_calls (fun W => BalAt W w.heap.size g bL SL ∧ Below w.heap.size w W ∧ w.heap.size ≤ g ∧ Gr.Row mailE W w.heap.size v3 [askV (askOf bL 0), askV (askOf bL 2)] ∧ Blk W gp 65 (mailv pLV)) H4.out ?_
  intro w4 h4
  have H4 := Lib.hid h4
  clear h4
  try clear w3
  obtain ⟨sl4, hbk4, _⟩ := H4.out.1
  refine (won_any g bL SL sl4 w4 hbk4 (by decide)).mono ?_
  rintro e w5 ⟨rfl, hb5⟩
  clear hbk4
  rw [wonL]
  have H5 := Lib.hid (show BalAt w5 w.heap.size g bL SL ∧ Below w.heap.size w w5 ∧ w.heap.size ≤ g ∧ Gr.Row mailE w5 w.heap.size v3 [askV (askOf bL 0), askV (askOf bL 2)] ∧ Blk w5 gp 65 (mailv pLV) from
    ⟨H4.out.1.keep hb5, below_trans H4.out.2.1 hb5 H4.out.2.1.size, H4.out.2.2.1, H4.out.2.2.2.1.keep hb5, H4.out.2.2.2.2.keep hb5⟩)
  clear H4 hb5
  go_wp2_with fail
  refine wp_region_p ([(0, true), (1, true), (3, true), (4, true), (2, false), (5, false), (6, true), (7, true)]) (fun w' => Blk w' gp 65 (mailv pLV)) (by kernel_rfl) rfl (by kernel_rfl) (by kernel_rfl) (H5.out.2.2.2.2.drew) rfl ?_
  intro KP RP TP hKP hTP hTP'
  simp only [List.append_eq, List.cons_append, List.nil_append, pick, nth]
  go_wp2_with (first
    | (apply SeqP.skip; rfl; simp only [Act.put, List.setIfInBounds_toArray, List.set_cons_zero, List.set_cons_succ])
    | (apply SeqP.pure; rfl; (intro w2 hw; have hw := hTP _ hw; exact exec_load_blk 65 _ rfl _ rfl _ _ hw _ Try.underlying65 rfl mail_info); simp only [Act.put, List.setIfInBounds_toArray, List.set_cons_zero, List.set_cons_succ])
    | (apply SeqP.call; rfl; rfl; (intro w2 hw; have hw := hTP _ hw; (skip); go_simp; exact ⟨rfl, rfl⟩); (intro w2 hw; have hw := hTP _ hw; (skip); (first | fail)); simp only [Act.put, List.setIfInBounds_toArray, List.set_cons_zero, List.set_cons_succ])
    | (apply SeqP.pure; rfl; (intro w2 hw; have hw := hTP _ hw; (skip); go_simp; with_reducible rfl); simp only [Act.put, List.setIfInBounds_toArray, List.set_cons_zero, List.set_cons_succ])
    | (apply SeqP.split; rfl; rfl; all_goals (intro hc; simp only [hc]; try simp only [beq_iff_eq, decide_eq_true_eq, beq_eq_false_iff_ne, decide_eq_false_iff_not, bne_iff_ne, ne_eq, Bool.not_eq_true', Bool.not_eq_false', Int.not_le, Int.not_lt, bne_eq_false_iff_eq, Bool.or_eq_true, Bool.and_eq_true, Bool.or_eq_false_iff] at hc)))
  have hd5 : Below w5.heap.size w5 w5.drew := (Below.refl _ _).drew
  have H6 := Lib.hid (show BalAt w5.drew w.heap.size g bL SL ∧ Below w.heap.size w w5.drew ∧ w.heap.size ≤ g ∧ Gr.Row mailE w5.drew w.heap.size v3 [askV (askOf bL 0), askV (askOf bL 2)] ∧ Blk w5.drew gp 65 (mailv pLV) from
    ⟨H5.out.1.keep hd5, H5.out.2.1.drew, H5.out.2.2.1, H5.out.2.2.2.1.keep hd5, H5.out.2.2.2.2.drew⟩)
  clear H5 hd5
  generalize w5.drew = w6 at *
  apply SeqP.eff
  · rfl
  intro KE hKE
  go_wp2_with fail
  refine (add_any w.heap.size g bL SL pLV w6 H6.out.1 H6.out.2.1.size (by decide) LogAt.nil (by simp [pLV, pL])).mono ?_
  rintro e w7 ⟨rfl, hB, hK⟩
  rw [show decide (addOk bL SL pLV.m) = true from decide_eq_true addL]
  have hB' : BalAt w7 w.heap.size g bL (addS bL SL pL) := hB
  have H7 := Lib.hid (show BalAt w7 w.heap.size g bL (addS bL SL pL) ∧ Below w.heap.size w w7 ∧ w.heap.size ≤ g ∧ Gr.Row mailE w7 w.heap.size v3 [askV (askOf bL 0), askV (askOf bL 2)] ∧ Blk w7 gp 65 (mailv pLV) from by
    obtain ⟨h1, h2, h3, h4, h5⟩ := H6.out
    obtain ⟨sl, hbk, _⟩ := h1
    exact ⟨hB', h2.trans (hK.below (B := w.heap.size) (fun k e => by cases e; exact h3) (fun k e => by cases e) h2.size), h3, hK.own h4 (fun q e => by cases e; exact blk_not hbk (by decide)) (fun q e => by cases e), hK.blk h5 (fun e => hgp (Option.some.inj e).symm) (by simp)⟩)
  refine hKE _ _ (hTP' _ H7.out.2.2.2.2) ?_
  clear hKE KE H6 hB hB' hK
  go_wp2_with (first
    | (apply SeqP.skip; rfl; simp only [Act.put, List.setIfInBounds_toArray, List.set_cons_zero, List.set_cons_succ])
    | (apply SeqP.pure; rfl; (intro w2 hw; have hw := hTP _ hw; exact exec_load_blk 65 _ rfl _ rfl _ _ hw _ Try.underlying65 rfl mail_info); simp only [Act.put, List.setIfInBounds_toArray, List.set_cons_zero, List.set_cons_succ])
    | (apply SeqP.call; rfl; rfl; (intro w2 hw; have hw := hTP _ hw; (skip); go_simp; exact ⟨rfl, rfl⟩); (intro w2 hw; have hw := hTP _ hw; (skip); (first | fail)); simp only [Act.put, List.setIfInBounds_toArray, List.set_cons_zero, List.set_cons_succ])
    | (apply SeqP.pure; rfl; (intro w2 hw; have hw := hTP _ hw; (skip); go_simp; with_reducible rfl); simp only [Act.put, List.setIfInBounds_toArray, List.set_cons_zero, List.set_cons_succ])
    | (apply SeqP.split; rfl; rfl; all_goals (intro hc; simp only [hc]; try simp only [beq_iff_eq, decide_eq_true_eq, beq_eq_false_iff_ne, decide_eq_false_iff_not, bne_iff_ne, ne_eq, Bool.not_eq_true', Bool.not_eq_false', Int.not_le, Int.not_lt, bne_eq_false_iff_eq, Bool.or_eq_true, Bool.and_eq_true, Bool.or_eq_false_iff] at hc)))
  apply SeqP.eff
  · rfl
  intro KE hKE
  go_wp2_with fail
  refine (add_any w.heap.size g bL (addS bL SL pL) pLV w7 H7.out.1 H7.out.2.1.size (by decide) LogAt.nil (by simp [pLV, pL])).mono ?_
  rintro e w8 ⟨rfl, hB, hK⟩
  rw [show decide (addOk bL (addS bL SL pL) pLV.m) = false from decide_eq_false twL]
  have hB' : BalAt w8 w.heap.size g bL (addS bL SL pL) := by
    have h := hB
    rw [show addS bL (addS bL SL pL) pLV.m = addS bL SL pL from addS_no twL] at h
    exact h
  have H8 := Lib.hid (show BalAt w8 w.heap.size g bL (addS bL SL pL) ∧ Below w.heap.size w w8 ∧ w.heap.size ≤ g ∧ Gr.Row mailE w8 w.heap.size v3 [askV (askOf bL 0), askV (askOf bL 2)] ∧ Blk w8 gp 65 (mailv pLV) from by
    obtain ⟨h1, h2, h3, h4, h5⟩ := H7.out
    obtain ⟨sl, hbk, _⟩ := h1
    exact ⟨hB', h2.trans (hK.below (B := w.heap.size) (fun k e => by cases e; exact h3) (fun k e => by cases e) h2.size), h3, hK.own h4 (fun q e => by cases e; exact blk_not hbk (by decide)) (fun q e => by cases e), hK.blk h5 (fun e => hgp (Option.some.inj e).symm) (by simp)⟩)
  refine hKE _ _ (hTP' _ H8.out.2.2.2.2) ?_
  clear hKE KE H7 hB hB' hK
  go_wp2_with (first
    | (apply SeqP.skip; rfl; simp only [Act.put, List.setIfInBounds_toArray, List.set_cons_zero, List.set_cons_succ])
    | (apply SeqP.call; rfl; rfl; (intro w2 hw; have hw := hTP _ hw; (skip); go_simp; exact ⟨rfl, rfl⟩); (intro w2 hw; have hw := hTP _ hw; (skip); (first | fail)); simp only [Act.put, List.setIfInBounds_toArray, List.set_cons_zero, List.set_cons_succ])
    | (apply SeqP.pure; rfl; (intro w2 hw; have hw := hTP _ hw; (skip); go_simp; with_reducible rfl); simp only [Act.put, List.setIfInBounds_toArray, List.set_cons_zero, List.set_cons_succ])
    | (apply SeqP.split; rfl; rfl; all_goals (intro hc; simp only [hc]; try simp only [beq_iff_eq, decide_eq_true_eq, beq_eq_false_iff_ne, decide_eq_false_iff_not, bne_iff_ne, ne_eq, Bool.not_eq_true', Bool.not_eq_false', Int.not_le, Int.not_lt, bne_eq_false_iff_eq, Bool.or_eq_true, Bool.and_eq_true, Bool.or_eq_false_iff] at hc)))
  apply SeqP.nil
  refine hKP _ _ (hTP' _ (H8.out.2.2.2.2)) ?_
  clear hKP hTP hTP'
  go_wp2_with fail
  have hlog2 : ∀ i, i < 7 → (regOf (addS bL SL pL) i).log.length ≤ 64 := fun i hi => by
    rcases cases7 hi with rfl | rfl | rfl | rfl | rfl | rfl | rfl <;> decide
  refine (chosen_any w.heap.size g bL (addS bL SL pL) w8 H8.out.1 (by decide) hlog2).mono ?_
  rintro e w9 ⟨v9, rfl, hR9, hb9⟩
  clear hlog2
  rw [chL2] at hR9 ⊢
  obtain ⟨A9, c9, rfl, _, _, _⟩ := hR9.form
  have H9 := Lib.hid (show BalAt w9 w.heap.size g bL (addS bL SL pL) ∧ Below w.heap.size w w9 ∧ Gr.Row mailE w9 w.heap.size v3 [askV (askOf bL 0), askV (askOf bL 2)] from
    ⟨H8.out.1.keep hb9, below_trans H8.out.2.1 hb9 H8.out.2.1.size, H8.out.2.2.2.1.keep hb9⟩)
  clear H8 hb9 hR9
  have hnw := new_any ⟨0, 3, 1, 3, 7⟩ ⟨3, 0, [], 0⟩ no0 w9 LogAt.nil (by simp)
  have HNW := Lib.hid hnw
  clear hnw
  go_wp2_with fail
  refine HNW.out.mono ?_
  clear HNW
  rintro e wa (⟨hno, _⟩ | ⟨_, rfl, hba⟩)
  case inl => exact absurd hno noL
  have HA := Lib.hid (show BalAt wa w.heap.size g bL (addS bL SL pL) ∧ Below w.heap.size w wa ∧ Gr.Row mailE wa w.heap.size v3 [askV (askOf bL 0), askV (askOf bL 2)] from
    ⟨H9.out.1.keep hba, below_trans H9.out.2.1 hba H9.out.2.1.size, H9.out.2.2.keep hba⟩)
  clear H9 hba
  obtain ⟨A3, c3, rfl, _, _, hS3⟩ := Gr.Row.form HA.out.2.2
  obtain ⟨b3, o3, e0, rfl, he0, _, F0⟩ := Gr.Sl.at_ hS3 (k := 0) (by simp)
  obtain ⟨b4, o4, e1, hA4, he1, _, F1⟩ := Gr.Sl.at_ hS3 (k := 1) (by simp)
  cases hA4
  obtain rfl : askV (askOf bL 0) = e0 := Option.some.inj he0.out
  obtain rfl : askV (askOf bL 2) = e1 := Option.some.inj he1.out
  have y0 := F0 wa (Below.refl _ _) 2 (by show 2 < 18; omega)
  have y1 := F1 wa (Below.refl _ _) 2 (by show 2 < 18; omega)
  have y2 := F1 wa (Below.refl _ _) 0 (by show 0 < 18; omega)
  have y3 := F1 wa (Below.refl _ _) 4 (by show 4 < 18; omega)
  have y4 := F1 wa (Below.refl _ _) 8 (by show 8 < 18; omega)
  clear F0 F1 he0 he1 hS3
  have x0 : wa.cell? ⟨b3, o3 + 2, none⟩ = some (.int .i64 0) := by have := y0; simp only [show mailE.size = 18 from rfl, Nat.zero_mul, Nat.add_zero] at this; exact this
  have x1 : wa.cell? ⟨b3, o3 + 18 + 2, none⟩ = some (.int .i64 2) := y1
  have x2 : wa.cell? ⟨b3, o3 + 18, none⟩ = some (.int .i64 1) := y2
  have x3 : wa.cell? ⟨b3, o3 + 18 + 4, none⟩ = some (.int .i64 2) := y3
  have x4 : wa.cell? ⟨b3, o3 + 18 + 8, none⟩ = some (.int .i64 7) := y4
  clear y0 y1 y2 y3 y4
  go_wp2_with fail
  obtain ⟨sla, hbka, _⟩ := HA.out.1
  refine (won_any g bL (addS bL SL pL) sla wa hbka (by decide)).mono ?_
  rintro e wb ⟨rfl, hbb⟩
  rw [wonL2]
  have HB := Lib.hid (below_trans HA.out.2.1 hbb HA.out.2.1.size)
  clear hbka
  go_wp2_with fail
  go_ret
  exact ⟨rfl, HB.out⟩
end Go.Proofs.Ytbicefilfhcgoaa

set_option linter.unusedSimpArgs false
set_option linter.unusedVariables false
set_option maxRecDepth 100000
namespace Go.Wd
open Go Go.RowKit
theorem exec_load_range {P : Program} {w : World} {o : Oper} {a : Act} (ty : TypeId) (x : Operand) (ho : o.op = .load ty x) (g i : Nat) (hx : a.eval x = .pointer (some ⟨g, i, none⟩))
    (cs : List Value) (hr : w.rangeAt g i cs) (d : TypeDesc) (hu : P.underlying ty = some d) (hd : d.isRow = true) (hi : (P.info? ty).map (·.size) = some cs.length) :
    (execOp a.eval o).run P w = .ok (.value (.agg cs.toArray)) w := by
  unfold execOp
  simp only [ho, hx, Instr.loadAt, Instr.sureAddr, Sem.run_bind, Sem.run_pure, Result.andThen_ok, run_loadVar_mid w g i ty cs d hr hu hd hi]
theorem wpList_load_range_g {P : Program} {w : World} {ops : Array Oper} {rest : List Oper} {o : Oper} {a : Act} {Q : Exit → Act → World → Prop} (ty : TypeId) (x : Operand) (ho : o.op = .load ty x)
    (hw : Region.wanted o (yielded ops a.tmps) = true) (g i : Nat) (hx : a.eval x = .pointer (some ⟨g, i, none⟩)) (cs : List Value) (d : TypeDesc) (hr : w.rangeAt g i cs)
    (hu : P.underlying ty = some d) (hd : d.isRow = true) (hi : (P.info? ty).map (·.size) = some cs.length)
    (h : wpList P ops Q rest (a.put o.dst (.agg cs.toArray)) w) : wpList P ops Q (o :: rest) a w :=
  wpList_wanted hw fun _ hK => wp_load_mid ty x ho g i hx cs d hr hu hd hi (hK _ _ h)
end Go.Wd
namespace Go.Proofs.Ytbicefilfhcgoaa
open Go Go.RowKit Go.Sq Go.Wd Go.Arch

/-- The k-th piece, as a range of cells. -/
theorem Mails.range {w : World} {B : Nat} {A : Option Addr} {l : List MailV} (h : Mails w B A l) {k : Nat} (hk : k < l.length) : ∃ b off x, A = some ⟨b, off, none⟩ ∧ Hid (l[k]? = some x) ∧ (∀ w', Below B w w' → w'.rangeAt b (off + k * 18) (mailv x)) ∧ Hid (LogAt w B x.es x.m.ents) := by
  obtain ⟨b, off, x, ha, hx, _, hc, hl⟩ := h.at_ hk
  refine ⟨b, off, x, ha, hx, fun w' hb j v hv => ?_, hl⟩
  have hj : j < 18 := (List.getElem?_eq_some_iff.1 hv).1
  rw [hc w' hb j hj]
  exact hv
def begcells' (b : BegS) (own : RegS) (s : SlcE) : List Value := [.int .i64 b.stream, .int .i64 b.epoch, .int .i64 b.site, .int .i64 b.n, .int .i64 b.stamp, .int .i64 own.prom, .int .i64 own.view, .slice s.1 s.2.1 s.2.2, .int .i64 own.com]
/-- Whether more is handed in than is looked at. -/
def BeyP (F : Prop) (w : World) (e : Ending) (w' : World) : Prop := ∃ y, e = .returned (.bool y) ∧ (y = false → F) ∧ Below w.heap.size w w'
def Fit (own : RegS) (l : List MailV) : Prop := own.log.length ≤ 100 ∧ l.length ≤ 40 ∧ ∀ x ∈ l, x.m.ents.length ≤ 100

set_option maxHeartbeats 2000000 in
theorem beyond18_any (b : BegS) (own : RegS) (s : SlcE) (l : List MailV) (A : Option Addr) (c : Nat) (w : World) (hs : s.2.1 = own.log.length) (hl : Mails w w.heap.size A l) (hll : l.length ≤ 9223372036854775807) :
    Calls Try.prog 28 #[.agg (begcells' b own s).toArray, .slice A l.length c] w fun e w' => BeyP (Fit own l) w e w' := by
  have hz : Below w.heap.size w (w.alloc (.cells (begcells' b own s).toArray 53)) := (Below.refl _ _).alloc (Nat.le_refl _) _
  have BR := Blk.new w 53 (begcells' b own s)
  have m7 : (w.alloc (.cells (begcells' b own s).toArray 53)).cell? ⟨w.heap.size, 7, none⟩ = some (.slice s.1 s.2.1 s.2.2) := BR.cell 7
  have HH := Lib.hid (And.intro hz (And.intro hl hs))
  clear hz BR hl
  rw [hs] at m7
  clear hs
  generalize hk : own.log.length = k at m7
  have HK := Lib.hid hk
  clear hk
  by_cases h1 : 100 < k
  · have h1' : (100 : Int) < (k : Int) := by omega
    go_enter Try.func28, Try.ntmps28
    go_wp2_with fail
    go_ret
    exact ⟨true, rfl, by simp, HH.out.1⟩
  have h1' : ¬ (100 : Int) < (k : Int) := by omega
  by_cases h2 : 40 < l.length
  · have h2' : (40 : Int) < (l.length : Int) := by omega
    go_enter Try.func28, Try.ntmps28
    go_wp2_with fail
    go_ret
    exact ⟨true, rfl, by simp, HH.out.1⟩
  have h2' : ¬ (40 : Int) < (l.length : Int) := by omega
  go_enter Try.func28, Try.ntmps28
  go_wp2_with fail
  clear m7
  go_loopg [5] l.length (fun q i wr => ∃ j : Nat, q = l.length - j ∧ j ≤ l.length ∧ i = .int .i64 j ∧ Below w.heap.size w wr ∧ ∀ x ∈ l.take j, x.m.ents.length ≤ 100)
  case atStart => exact ⟨0, rfl, by omega, rfl, HH.out.1, by simp⟩
  case round =>
    obtain ⟨j, hq, hj, rfl, hwr, hno⟩ := hrel
    have AA : Aside (gk = l.length - j ∧ ∀ x ∈ l.take j, x.m.ents.length ≤ 100) := ⟨hq, hno⟩
    clear hq hno
    by_cases hlt : j < l.length
    · have j0 : (0 : Int) ≤ (j : Int) := by omega
      have j1 : (j : Int) < (l.length : Int) := by omega
      obtain ⟨b1, o1, x, rfl, hx, _, FA, hLx⟩ := HH.out.2.1.at_ hlt
      have hn : x.es.2.1 = x.m.ents.length := hLx.out.1
      have c9 : wr.cell? ⟨b1, o1 + j * 18 + 9, none⟩ = some (.slice x.es.1 x.es.2.1 x.es.2.2) := FA wr hwr 9 (by omega)
      rw [hn] at c9
      clear FA hn
      by_cases h3 : 100 < x.m.ents.length
      · have h3' : (100 : Int) < (x.m.ents.length : Int) := by omega
        go_wp2_with fail
        go_ret
        exact ⟨true, rfl, by simp, hwr⟩
      · have h3' : ¬ (100 : Int) < (x.m.ents.length : Int) := by omega
        go_wp2_with fail
        go_roundg (l.length - (j + 1))
        case measure => have hkk := AA.out.1; omega
        case rel =>
          refine ⟨j + 1, rfl, by omega, by go_num, hwr, fun z hz => ?_⟩
          rw [List.take_add_one, hx.out] at hz
          rcases List.mem_append.1 hz with hz | hz
          · exact AA.out.2 z hz
          · obtain rfl : z = x := by simpa using hz
            omega
    · obtain rfl : j = l.length := by omega
      have hfit : Hid (Fit own l) := Lib.hid ⟨by rw [HK.out]; omega, by omega, by have := AA.out.2; rwa [List.take_length] at this⟩
      go_wp2_with fail
      go_ret
      exact ⟨false, rfl, fun _ => hfit.out, hwr⟩
end Go.Proofs.Ytbicefilfhcgoaa

set_option linter.unusedSimpArgs false
set_option linter.unusedVariables false
set_option maxRecDepth 100000
namespace Go.Proofs.Ytbicefilfhcgoaa
open Go Go.RowKit Go.Sq Go.Wd Go.Arch

/-- Whether records are more than is looked at. -/
def beyondR (l : List RecV) : Bool := decide (60 < l.length) || l.any fun x => decide (100 < x.ents.length)
theorem beyondR_no {l : List RecV} (h : beyondR l = false) : l.length ≤ 60 ∧ ∀ x ∈ l, x.ents.length ≤ 100 := by
  unfold beyondR at h
  simp only [Bool.or_eq_false_iff, decide_eq_false_iff_not, List.any_eq_false] at h
  exact ⟨by omega, fun x hx => by have := h.2 x hx; simp only [decide_eq_true_eq] at this; omega⟩
theorem beyondR_long {l : List RecV} (h : 60 < l.length) : beyondR l = true := by unfold beyondR; simp [h]
theorem beyondR_at {l : List RecV} {k : Nat} {x : RecV} (hk : l[k]? = some x) (h : 100 < x.ents.length) : beyondR l = true := by
  unfold beyondR
  rw [Bool.or_eq_true]
  exact .inr (List.any_eq_true.2 ⟨x, List.mem_of_getElem? hk, by simpa using h⟩)
theorem beyondR_none {l : List RecV} (h : l.length ≤ 60) (h2 : ∀ x ∈ l, x.ents.length ≤ 100) : beyondR l = false := by
  unfold beyondR
  simp only [Bool.or_eq_false_iff, decide_eq_false_iff_not, List.any_eq_false, decide_eq_true_eq]
  exact ⟨by omega, fun x hx => by have := h2 x hx; omega⟩

set_option maxHeartbeats 2000000 in
theorem beyond15_any (l : List RecV) (A : Option Addr) (c : Nat) (w : World) (hl : Recs w w.heap.size A l) (hn : l.length ≤ 9223372036854775807) :
    Calls Try.prog 22 #[.slice A l.length c] w fun e w' => e = .returned (.bool (beyondR l)) ∧ w' = w := by
  have HE := Lib.hid hl
  clear hl
  by_cases h60 : 60 < l.length
  · have HN := Lib.hid (beyondR_long h60)
    go_enter Try.func22, Try.ntmps22
    go_wp2_with fail
    go_ret
    rw [HN.out]
    exact ⟨rfl, rfl⟩
  have h60' : l.length ≤ 60 := by omega
  go_enter Try.func22, Try.ntmps22
  go_wp2_with fail
  go_loopg [3] l.length (fun q i wr => ∃ (j : Nat), q = l.length - j ∧ j ≤ l.length ∧ i = .int .i64 j ∧ (∀ x ∈ l.take j, x.ents.length ≤ 100) ∧ wr = w)
  case atStart => exact ⟨0, rfl, by omega, rfl, by simp, rfl⟩
  case round =>
    obtain ⟨j, hq, hj, rfl, ht, rfl⟩ := hrel
    have AA : Aside (gk = l.length - j ∧ (∀ x ∈ l.take j, x.ents.length ≤ 100)) := ⟨hq, ht⟩
    clear hq ht
    by_cases hlt : j < l.length
    · obtain ⟨b1, o1, x, rfl, hx, FA, HX⟩ := HE.out.at_ hlt
      have hx6 := (FA _ (Below.refl _ _)).2.2.2.2.2.2.1
      have hxn : x.es.2.1 = x.ents.length := HX.out.1
      rw [hxn] at hx6
      clear hxn FA
      by_cases h1 : 100 < x.ents.length
      · have HN := Lib.hid (beyondR_at hx.out h1)
        go_wp2_with fail
        go_ret
        rw [HN.out]
        exact ⟨rfl, rfl⟩
      · have HT : Hid (∀ y ∈ l.take (j + 1), y.ents.length ≤ 100) := Lib.hid (by
          intro y hy
          rw [List.take_add_one, hx.out] at hy
          rcases List.mem_append.1 hy with hy | hy
          · exact AA.out.2 y hy
          · obtain rfl : y = x := by simpa using hy
            omega)
        go_wp2_with fail
        go_roundg (l.length - (j + 1))
        case measure => have hkk := AA.out.1; omega
        case rel => exact ⟨j + 1, rfl, by omega, by go_num, HT.out, rfl⟩
    · obtain rfl : j = l.length := by omega
      have HN := Lib.hid (beyondR_none h60' (by have := AA.out.2; rwa [List.take_length] at this))
      go_wp2_with fail
      go_ret
      rw [HN.out]
      exact ⟨rfl, rfl⟩

/-- The register behind records: those that may not come are left out. -/
def behindR (l : List RecV) : RegS := l.foldl (fun r x => (applyR r x.s).getD r) reg0
theorem behind_next {l : List RecV} {j : Nat} {x : RecV} (hx : l[j]? = some x) : behindR (l.take (j + 1)) = (applyR (behindR (l.take j)) x.s).getD (behindR (l.take j)) := by
  unfold behindR
  rw [List.take_add_one, hx, List.foldl_append]
  rfl
theorem behind_may : ∀ (l : List RecV) (n : Nat), mayR (behindR (l.take n)) = true
  | l, 0 => may_reg0
  | l, n + 1 => by
    have ih := behind_may l n
    cases hx : l[n]? with
    | none => rw [List.take_add_one, hx]; simpa using ih
    | some x =>
      rw [behind_next hx]
      cases hA : applyR (behindR (l.take n)) x.s with
      | none => exact ih
      | some a => exact (apply_stays hA).1
theorem regR_cases {r q : RegS} {b : Bool} {x : RecS} (h : regR (applyR r x) = (q, b)) : (applyR r x).getD r = if b = true then q else r := by
  cases hA : applyR r x with
  | none => rw [hA] at h; cases h; rfl
  | some a => rw [hA] at h; cases h; rfl
theorem apply_get {r q : RegS} {b : Bool} (sl : SlcE) (x : RecV) (w : World) (h : regR (applyR r x.s) = (q, b)) (hl : LogAt w w.heap.size sl r.log) (hx : LogAt w w.heap.size x.es x.ents) (hx2 : x.ents.length ≤ 1000) :
    Calls Try.prog 16 #[.agg (rgv r sl).toArray, .agg (rcv x).toArray] w fun e w' => ∃ s : SlcE, e = .returned (.tuple #[.agg (rgv q s).toArray, .bool b]) ∧ LogAt w' w'.heap.size s q.log ∧ Below w.heap.size w w' := by
  refine (apply_any r sl x w hl hx hx2).mono ?_
  rintro e w1 ⟨s, he, hL, hb⟩
  rw [h] at he hL
  exact ⟨s, he, hL.1, hb⟩

set_option maxHeartbeats 4000000 in
theorem behind15_any (l : List RecV) (A : Option Addr) (c : Nat) (w : World) (hl : Recs w w.heap.size A l) (hn : l.length ≤ 9223372036854775807) (hn2 : ∀ x ∈ l, x.ents.length ≤ 100) :
    Calls Try.prog 24 #[.slice A l.length c] w fun e w' => ∃ s : SlcE, e = .returned (.agg (rgv (behindR l) s).toArray) ∧ LogAt w' w'.heap.size s (behindR l).log ∧ Below w.heap.size w w' := by
  have HE := Lib.hid (And.intro hl hn2)
  clear hl hn2
  have hw0 : Below w.heap.size w ((w.alloc (.cells (rgv reg0 (none, 0, 0)).toArray 24)).alloc (.cells (rgv reg0 (none, 0, 0)).toArray 24)) := ((Below.refl _ _).alloc (Nat.le_refl _) _).alloc (by simp) _
  have B0 : Blk ((w.alloc (.cells (rgv reg0 (none, 0, 0)).toArray 24)).alloc (.cells (rgv reg0 (none, 0, 0)).toArray 24)) w.heap.size 24 (rgv reg0 (none, 0, 0)) := (Blk.new w _ _).alloc _
  have B1 : Blk ((w.alloc (.cells (rgv reg0 (none, 0, 0)).toArray 24)).alloc (.cells (rgv reg0 (none, 0, 0)).toArray 24)) (w.heap.size + 1) 24 (rgv reg0 (none, 0, 0)) := Blk.newAt _ _ _ (by simp)
  have HH := Lib.hid (And.intro hw0 (And.intro B0 B1))
  clear hw0 B0 B1
  go_enter Try.func24, Try.ntmps24
  go_wp2_with fail
  go_loopg [4] l.length (fun q i wr => ∃ (j : Nat) (s : SlcE), q = l.length - j ∧ j ≤ l.length ∧ i = .int .i64 j ∧ Below w.heap.size w wr ∧ Blk wr w.heap.size 24 (rgv reg0 (none, 0, 0)) ∧ Blk wr (w.heap.size + 1) 24 (rgv (behindR (l.take j)) s) ∧ LogAt wr wr.heap.size s (behindR (l.take j)).log)
  case atStart => exact ⟨0, (none, 0, 0), rfl, by omega, rfl, HH.out.1, HH.out.2.1, HH.out.2.2, LogAt.nil⟩
  case round =>
    clear HH
    obtain ⟨j, s, hq, hj, rfl, hB, B0, B1, hS⟩ := hrel
    have AA : Aside (gk = l.length - j) := hq
    clear hq
    obtain ⟨wq, rfl⟩ : ∃ z, z = wr := ⟨_, rfl⟩
    by_cases hlt : j < l.length
    · obtain ⟨b1, o1, x, rfl, hx, FA, HX⟩ := HE.out.1.at_ hlt
      have hx2 := HE.out.2 x (List.mem_of_getElem? hx.out)
      obtain ⟨⟨q, b⟩, hqb⟩ : ∃ z, regR (applyR (behindR (l.take j)) x.s) = z := ⟨_, rfl⟩
      have HN := Lib.hid (behind_next hx.out)
      generalize behindR (l.take j) = r at B1 hS hqb HN ⊢
      have HQ := Lib.hid hqb
      clear hqb
      have HS := Lib.hid hS
      clear hS
      have hz := hB.size
      go_wp2_with fail
      refine wp_region_t (.quiet 0 (.quiet 1 (.quiet 2 (.quiet 3 (.quiet 4 (.two 5 9 (.quiet 6 (.quiet 7 (.quiet 8 (.one 9 (.one 10 (.quiet 11 .done)))))) (.one 5 (.quiet 6 (.quiet 7 (.quiet 8 (.one 10 (.quiet 11 .done)))))))))))) (fun w' => Below wq.heap.size wq w') (by kernel_rfl) (by kernel_rfl) (by kernel_rfl) (by kernel_rfl) ((Below.refl _ _).drew) rfl ?_
      intro KP RP TP hKP hTP hTP'
      simp only [Sch.fill, nth]
      apply merge2 (Inv := fun g s w' => Below wq.heap.size wq w' ∧ wq.heap.size ≤ g ∧ Blk w' g 24 (rgv q s) ∧ LogAt w' w'.heap.size s (q).log) (K := KP)
      · intro HK
        have hQ : Below wq.heap.size wq wq.drew := (Below.refl _ _).drew
        generalize wq.drew = wc at hQ ⊢
        go_wp2_with (first
          | (apply SeqT.skip; rfl; simp only [Act.put, List.setIfInBounds_toArray, List.set_cons_zero, List.set_cons_succ])
          | (apply SeqT.pure; rfl; (intro w9 hw9; have hw9 := hTP _ hw9; exact exec_load_blk 24 _ rfl _ rfl _ _ (B1.keep hw9) _ Try.underlying24 rfl rg_info); simp only [Act.put, List.setIfInBounds_toArray, List.set_cons_zero, List.set_cons_succ])
          | (apply SeqT.pure; rfl; (intro w9 hw9; have hw9 := hTP _ hw9; ((obtain ⟨q0, q1, q2, q3, q4, q5, q6, q7⟩ := FA _ (below_trans hB hw9 hz))); go_simp; with_reducible rfl); simp only [Act.put, List.setIfInBounds_toArray, List.set_cons_zero, List.set_cons_succ]))
        all_goals first | apply SeqT.two | apply SeqT.one
        all_goals first
          | (refine EffT.is (some 19) rfl ?_
             apply EffT.go
             · rfl
             intro KE hKE
             go_wp2_with fail
             refine (apply_get s x wc HQ.out (HS.out.keep hQ) (HX.out.keep (below_trans hB hQ hz)) (by omega)).mono ?_
             rintro e wd ⟨sr, rfl, hR0, hb⟩
             have hQ' := below_trans hQ hb hQ.size
             refine hKE _ _ (hTP' _ hQ') ?_
             clear hKE KE hQ
             try replace hZ := hZ.keep hb
             clear hb
             try clear wc
             obtain ⟨wc, rfl⟩ : ∃ z, z = wd := ⟨_, rfl⟩
             have hR := hR0
             clear hR0
             have hQ := hQ'
             clear hQ'
             go_wp2_with (first
               | (apply SeqT.skip; rfl; simp only [Act.put, List.setIfInBounds_toArray, List.set_cons_zero, List.set_cons_succ])
               | (apply SeqT.pure; rfl; (intro w9 hw9; have hw9 := hTP _ hw9; exact exec_load_blk 24 _ rfl _ rfl _ _ (B1.keep hw9) _ Try.underlying24 rfl rg_info); simp only [Act.put, List.setIfInBounds_toArray, List.set_cons_zero, List.set_cons_succ])
               | (apply SeqT.pure; rfl; (intro w9 hw9; have hw9 := hTP _ hw9; ((obtain ⟨q0, q1, q2, q3, q4, q5, q6, q7⟩ := FA _ (below_trans hB hw9 hz))); go_simp; with_reducible rfl); simp only [Act.put, List.setIfInBounds_toArray, List.set_cons_zero, List.set_cons_succ])))
          | (refine EffT.is (some 5) rfl ?_
             apply EffT.go
             · rfl
             intro KE hKE
             go_wp2_with fail
             refine eff_abs hKE (fun W' => Below wc.heap.size wc W' ∧ Blk W' wc.heap.size 24 (rgv reg0 (none, 0, 0))) ⟨(Below.refl _ _).alloc (Nat.le_refl _) _, Blk.new wc 24 (rgv reg0 (none, 0, 0))⟩ (fun W' h => hTP' _ (below_trans hQ h.1 hQ.size)) ?_
             rintro wd ⟨hb, hZ0⟩
             have hQ' := below_trans hQ hb hQ.size
             have hgz := hQ.size
             generalize wc.heap.size = gz at hZ0 hgz ⊢
             clear hKE KE hQ
             try replace hR := hR.keep hb
             clear hb
             try clear wc
             obtain ⟨wc, rfl⟩ : ∃ z, z = wd := ⟨_, rfl⟩
             have hZ := hZ0
             clear hZ0
             have hQ := hQ'
             clear hQ'
             go_wp2_with (first
               | (apply SeqT.skip; rfl; simp only [Act.put, List.setIfInBounds_toArray, List.set_cons_zero, List.set_cons_succ])
               | (apply SeqT.pure; rfl; (intro w9 hw9; have hw9 := hTP _ hw9; exact exec_load_blk 24 _ rfl _ rfl _ _ (B1.keep hw9) _ Try.underlying24 rfl rg_info); simp only [Act.put, List.setIfInBounds_toArray, List.set_cons_zero, List.set_cons_succ])
               | (apply SeqT.pure; rfl; (intro w9 hw9; have hw9 := hTP _ hw9; ((obtain ⟨q0, q1, q2, q3, q4, q5, q6, q7⟩ := FA _ (below_trans hB hw9 hz))); go_simp; with_reducible rfl); simp only [Act.put, List.setIfInBounds_toArray, List.set_cons_zero, List.set_cons_succ])))
        all_goals first | apply SeqT.two | apply SeqT.one
        all_goals first
          | (refine EffT.is (some 19) rfl ?_
             apply EffT.go
             · rfl
             intro KE hKE
             go_wp2_with fail
             refine (apply_get s x wc HQ.out (HS.out.keep hQ) (HX.out.keep (below_trans hB hQ hz)) (by omega)).mono ?_
             rintro e wd ⟨sr, rfl, hR0, hb⟩
             have hQ' := below_trans hQ hb hQ.size
             refine hKE _ _ (hTP' _ hQ') ?_
             clear hKE KE hQ
             try replace hZ := hZ.keep hb
             clear hb
             try clear wc
             obtain ⟨wc, rfl⟩ : ∃ z, z = wd := ⟨_, rfl⟩
             have hR := hR0
             clear hR0
             have hQ := hQ'
             clear hQ'
             go_wp2_with (first
               | (apply SeqT.skip; rfl; simp only [Act.put, List.setIfInBounds_toArray, List.set_cons_zero, List.set_cons_succ])
               | (apply SeqT.pure; rfl; (intro w9 hw9; have hw9 := hTP _ hw9; exact exec_load_blk 24 _ rfl _ rfl _ _ (B1.keep hw9) _ Try.underlying24 rfl rg_info); simp only [Act.put, List.setIfInBounds_toArray, List.set_cons_zero, List.set_cons_succ])
               | (apply SeqT.pure; rfl; (intro w9 hw9; have hw9 := hTP _ hw9; ((obtain ⟨q0, q1, q2, q3, q4, q5, q6, q7⟩ := FA _ (below_trans hB hw9 hz))); go_simp; with_reducible rfl); simp only [Act.put, List.setIfInBounds_toArray, List.set_cons_zero, List.set_cons_succ])))
          | (refine EffT.is (some 5) rfl ?_
             apply EffT.go
             · rfl
             intro KE hKE
             go_wp2_with fail
             refine eff_abs hKE (fun W' => Below wc.heap.size wc W' ∧ Blk W' wc.heap.size 24 (rgv reg0 (none, 0, 0))) ⟨(Below.refl _ _).alloc (Nat.le_refl _) _, Blk.new wc 24 (rgv reg0 (none, 0, 0))⟩ (fun W' h => hTP' _ (below_trans hQ h.1 hQ.size)) ?_
             rintro wd ⟨hb, hZ0⟩
             have hQ' := below_trans hQ hb hQ.size
             have hgz := hQ.size
             generalize wc.heap.size = gz at hZ0 hgz ⊢
             clear hKE KE hQ
             try replace hR := hR.keep hb
             clear hb
             try clear wc
             obtain ⟨wc, rfl⟩ : ∃ z, z = wd := ⟨_, rfl⟩
             have hZ := hZ0
             clear hZ0
             have hQ := hQ'
             clear hQ'
             go_wp2_with (first
               | (apply SeqT.skip; rfl; simp only [Act.put, List.setIfInBounds_toArray, List.set_cons_zero, List.set_cons_succ])
               | (apply SeqT.pure; rfl; (intro w9 hw9; have hw9 := hTP _ hw9; exact exec_load_blk 24 _ rfl _ rfl _ _ (B1.keep hw9) _ Try.underlying24 rfl rg_info); simp only [Act.put, List.setIfInBounds_toArray, List.set_cons_zero, List.set_cons_succ])
               | (apply SeqT.pure; rfl; (intro w9 hw9; have hw9 := hTP _ hw9; ((obtain ⟨q0, q1, q2, q3, q4, q5, q6, q7⟩ := FA _ (below_trans hB hw9 hz))); go_simp; with_reducible rfl); simp only [Act.put, List.setIfInBounds_toArray, List.set_cons_zero, List.set_cons_succ])))
        all_goals first | apply SeqT.two | apply SeqT.one
        all_goals
          refine EffT.is none rfl ?_
          apply EffT.go
          · rfl
          intro KE hKE
          refine wp_store_own 24 _ _ rfl _ (rgv q sr) rfl rfl _ _ hZ rg_info rfl (rgv_one _ _) ?_
          intro wd B5 g5
          have hQ' := hQ.trans (below_grown g5 hgz hQ.size)
          have hR5 := hR.stored hZ (by simp [rgv]) g5
          refine hKE _ _ (hTP' _ hQ') ?_
          clear hKE KE
          go_wp2_with (first
            | (apply SeqT.skip; rfl; simp only [Act.put, List.setIfInBounds_toArray, List.set_cons_zero, List.set_cons_succ])
            | (apply SeqT.pure; rfl; (intro w9 hw9; have hw9 := hTP _ hw9; exact exec_load_blk 24 _ rfl _ rfl _ _ (B1.keep hw9) _ Try.underlying24 rfl rg_info); simp only [Act.put, List.setIfInBounds_toArray, List.set_cons_zero, List.set_cons_succ])
            | (apply SeqT.pure; rfl; (intro w9 hw9; have hw9 := hTP _ hw9; ((obtain ⟨q0, q1, q2, q3, q4, q5, q6, q7⟩ := FA _ (below_trans hB hw9 hz))); go_simp; with_reducible rfl); simp only [Act.put, List.setIfInBounds_toArray, List.set_cons_zero, List.set_cons_succ]))
          apply SeqT.done
          exact HK gz sr wd ⟨hQ', hgz, B5, hR5⟩
      intro g s2 w3 ⟨hb3, hge, B3, R3⟩
      refine hKP _ _ (hTP' _ hb3) ?_
      clear hKP hTP hTP'
      have hB3 := below_trans hB hb3 hz
      have C0 := B0.keep hb3
      have C1 := B1.keep hb3
      have HS3 := Lib.hid (HS.out.keep hb3)
      have HE2 := Lib.hid (regR_cases HQ.out)
      have R3' := Lib.hid R3
      have l1 := C1.lt
      have hz3 := hB3.size
      clear HQ R3 B0 B1 HS hB hb3
      try clear wq
      cases b with
      | true =>
        go_wp2_with ((with_reducible refine at_list ?_); first | refine wpList_load_blk rfl 24 _ rfl _ rfl _ _ _ (B3) Try.underlying24 rfl rg_info ?_ | (refine wpList_store_own rfl 24 _ _ rfl _ (rgv q s2) rfl rfl _ _ (C1) rg_info rfl (rgv_one _ _) ?_; intro w4 D1 g4))
        have hB4 := hB3.trans (below_grown g4 (by omega) hz3)
        go_roundg (l.length - (j + 1))
        case measure => have hkk := AA.out; omega
        case rel =>
          refine ⟨j + 1, s2, rfl, by omega, by go_num, hB4, C0.grown g4 (fun e => by have := Option.some.inj e; omega), ?_, ?_⟩
          · rw [HN.out, HE2.out]; exact D1
          · rw [HN.out, HE2.out]; exact R3'.out.stored C1 (by simp [rgv]) g4
      | false =>
        go_wp2_with fail
        go_roundg (l.length - (j + 1))
        case measure => have hkk := AA.out; omega
        case rel =>
          refine ⟨j + 1, s, rfl, by omega, by go_num, hB3, C0, ?_, ?_⟩
          · rw [HN.out, HE2.out]; exact C1
          · rw [HN.out, HE2.out]; exact HS3.out
    · obtain rfl : j = l.length := by omega
      rw [List.take_length] at B1 hS
      have l1 := B1.lt
      have hz := hB.size
      go_wp2_with ((with_reducible refine at_list ?_); first | refine wpList_load_blk rfl 24 _ rfl _ rfl _ _ _ (B1) Try.underlying24 rfl rg_info ?_ | (refine wpList_store_own rfl 24 _ _ rfl _ (rgv (behindR l) s) rfl rfl _ _ (B0) rg_info rfl (rgv_one _ _) ?_; intro w4 D0 g4))
      have hB4 := hB.trans (below_grown g4 (Nat.le_refl _) hz)
      apply ret_of
      · exact results_blk rfl _ _ _ _ _ _ rfl D0 Try.underlying24 rfl rg_info
      · exact ⟨rfl, s, rfl, hS.stored B0 (by simp [rgv]) g4, hB4⟩
theorem regR_some {r q : RegS} {x : RecS} (h : regR (applyR r x) = (q, true)) : applyR r x = some q := by
  cases hA : applyR r x with
  | none => rw [hA] at h; cases h
  | some a => rw [hA] at h; cases h; rfl

theorem same_yes {n1 n2 : Nat} (l m : List Ent) (h1 : n1 = l.length) (h2 : n2 = m.length) (h : l = m) (A B : Option Addr) (c d : Nat) (w : World) (ha : Ents w w.heap.size A l) (hb : Ents w w.heap.size B m) (hl : l.length ≤ 9223372036854775807) (hm : m.length ≤ 9223372036854775807) :
    Calls Try.prog 23 #[.slice A n1 c, .slice B n2 d] w fun e w' => e = .returned (.bool true) ∧ Below w.heap.size w w' := by
  subst h1; subst h2
  have := same_any l m A B c d w ha hb hl hm
  rw [decide_eq_true h] at this
  exact this
end Go.Proofs.Ytbicefilfhcgoaa
