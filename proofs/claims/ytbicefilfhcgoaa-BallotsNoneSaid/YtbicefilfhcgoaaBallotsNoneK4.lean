/-
  The walks over Won and Sites of a ballot.
  The walk over put of a ballot.
  The walk over Chosen of a ballot.
  The walk over New of a ballot.
  Rows of mail.
  The walk over Add of a ballot.
  Promises in another order, in plain Lean; what a ballot asks.
  The walk over Mail of a ballot.
  The walks over the functions of a ballot that is none.
-/
import Derived.Test.YtbicefilfhcgoaaBallotsNoneK1
import Derived.Test.YtbicefilfhcgoaaBallotsNoneK2
import Derived.Test.YtbicefilfhcgoaaBallotsNoneK3
set_option linter.unusedSimpArgs false
set_option linter.unusedVariables false
set_option maxRecDepth 100000
namespace Go.Proofs.Ytbicefilfhcgoaa
open Go Go.RowKit Go.Sq Go.Wd Go.Arch

set_option maxHeartbeats 2000000 in
theorem won_any (g : Nat) (b : BegS) (S : Slots) (sl : Sls) (w : World) (hb : Blk w g 85 (balv b S sl)) (hn : b.n ≠ 0) :
    Calls Try.prog 33 #[.pointer (some ⟨g, 0, none⟩)] w fun e w' => e = .returned (.bool (wonS b S)) ∧ Below w.heap.size w w' := by
  have hw : Below w.heap.size w w := Below.refl _ _
  have hz : (b.n == 0) = false := by rw [beq_eq_false_iff_ne]; exact hn
  have H := Lib.hid hb
  have FC : ∀ w', Below w.heap.size w w' → w'.cell? ⟨g, 3, none⟩ = some (.int .i64 b.n) := fun w' h => (H.out.keep h).cell 3
  have hg := hb.lt
  clear hb hn
  go_enter Try.func33, Try.ntmps33
  go_wp2_with fail
  refine wp_region_p ([(0, true), (1, true), (2, true), (3, true), (4, true), (7, true), (8, true), (9, true), (10, true), (5, false), (6, true), (11, true), (12, true), (13, true), (14, true)]) (fun w' => Below w.heap.size w w') (by kernel_rfl) rfl (by kernel_rfl) (by kernel_rfl) (hw.drew) rfl ?_
  intro KP RP TP hKP hTP hTP'
  simp only [pick, nth]
  go_wp2_with (first
    | (apply SeqP.skip; rfl; simp only [Act.put, List.setIfInBounds_toArray, List.set_cons_zero, List.set_cons_succ])
    | (apply SeqP.call; rfl; rfl; (intro w2 hw; have hw := hTP _ hw; ((have q3 := FC _ hw)); go_simp; exact ⟨rfl, rfl⟩); (intro w2 hw; have hw := hTP _ hw; ((have q3 := FC _ hw)); (first | (go_at_call 52; refine (none_any g b.n _ (FC _ hw)).mono ?_; rintro e w' ⟨rfl, rfl⟩; exact ⟨rfl, rfl⟩) | (go_at_call 36; refine (maj_any _ _).mono ?_; rintro e w' ⟨rfl, rfl⟩; exact ⟨rfl, rfl⟩))); simp only [Act.put, List.setIfInBounds_toArray, List.set_cons_zero, List.set_cons_succ])
    | (apply SeqP.pure; rfl; (intro w2 hw; have hw := hTP _ hw; ((have q3 := FC _ hw)); go_simp; with_reducible rfl); simp only [Act.put, List.setIfInBounds_toArray, List.set_cons_zero, List.set_cons_succ])
    | (apply SeqP.split; rfl; rfl; all_goals (intro hc; simp only [hc]; try simp only [beq_iff_eq, decide_eq_true_eq, beq_eq_false_iff_ne, decide_eq_false_iff_not, bne_iff_ne, ne_eq, Bool.not_eq_true', Bool.not_eq_false', Int.not_le, Int.not_lt, bne_eq_false_iff_eq, Bool.or_eq_true, Bool.and_eq_true, Bool.or_eq_false_iff] at hc)))
  apply SeqP.eff
  · rfl
  intro KE hKE
  go_wp2_with fail
  refine (list_any g b S sl _ (H.out.keep hw.drew)).mono ?_
  rintro e w1 ⟨v, rfl, hR, hb⟩
  have hw1 := below_trans hw.drew hb hw.drew.size
  obtain ⟨A, c, rfl, _, _, _⟩ := Gr.Row.form hR
  rw [listV_len S sl 7]
  refine hKE _ _ (hTP' _ hw1) ?_
  clear hKE hb hR
  have HW := Lib.hid (show wonS b S = decide (majE b.n ≤ ((listTo S 7).length : Int)) from rfl)
  generalize (listTo S 7).length = L at HW ⊢
  go_wp2_with (first
    | (apply SeqP.skip; rfl; simp only [Act.put, List.setIfInBounds_toArray, List.set_cons_zero, List.set_cons_succ])
    | (apply SeqP.call; rfl; rfl; (intro w2 hw; have hw := hTP _ hw; ((have q3 := FC _ hw)); go_simp; exact ⟨rfl, rfl⟩); (intro w2 hw; have hw := hTP _ hw; ((have q3 := FC _ hw)); (first | (go_at_call 52; refine (none_any g b.n _ (FC _ hw)).mono ?_; rintro e w' ⟨rfl, rfl⟩; exact ⟨rfl, rfl⟩) | (go_at_call 36; refine (maj_any _ _).mono ?_; rintro e w' ⟨rfl, rfl⟩; exact ⟨rfl, rfl⟩))); simp only [Act.put, List.setIfInBounds_toArray, List.set_cons_zero, List.set_cons_succ])
    | (apply SeqP.pure; rfl; (intro w2 hw; have hw := hTP _ hw; ((have q3 := FC _ hw)); go_simp; with_reducible rfl); simp only [Act.put, List.setIfInBounds_toArray, List.set_cons_zero, List.set_cons_succ])
    | (apply SeqP.split; rfl; rfl; all_goals (intro hc; simp only [hc]; try simp only [beq_iff_eq, decide_eq_true_eq, beq_eq_false_iff_ne, decide_eq_false_iff_not, bne_iff_ne, ne_eq, Bool.not_eq_true', Bool.not_eq_false', Int.not_le, Int.not_lt, bne_eq_false_iff_eq, Bool.or_eq_true, Bool.and_eq_true, Bool.or_eq_false_iff] at hc)))
  apply SeqP.nil
  refine hKP _ _ (hTP' _ (hw1)) ?_
  clear hKP hTP hTP'
  go_wp2_with fail
  go_ret
  rw [HW.out]
  exact ⟨ret_bool (by first | rfl | simp), hw1⟩
def sitesTo (S : Slots) (j : Nat) : List Int := (List.range j).filterMap fun i => (S i).map fun _ => (i : Int)
theorem sitesTo_some {S : Slots} {j : Nat} {r : RegS} (h : S j = some r) : sitesTo S (j + 1) = sitesTo S j ++ [(j : Int)] := by
  unfold sitesTo
  rw [List.range_succ, List.filterMap_append]
  simp [h]
theorem sitesTo_none {S : Slots} {j : Nat} (h : S j = none) : sitesTo S (j + 1) = sitesTo S j := by
  unfold sitesTo
  rw [List.range_succ, List.filterMap_append]
  simp [h]
theorem sitesTo_len (S : Slots) (j : Nat) : (sitesTo S j).length = (listTo S j).length := by
  induction j with
  | zero => rfl
  | succ j ih =>
    cases h : S j with
    | none => rw [sitesTo_none h, listTo_none h, ih]
    | some r => rw [sitesTo_some h, listTo_some h, List.length_append, List.length_append, ih]; rfl

set_option maxHeartbeats 2000000 in
theorem bsites_any (g : Nat) (b : BegS) (S : Slots) (sl : Sls) (w : World) (hb : Blk w g 85 (balv b S sl)) (hn : b.n ≠ 0) :
    Calls Try.prog 42 #[.pointer (some ⟨g, 0, none⟩)] w fun e w' => ∃ v, e = .returned v ∧ RowI w' w.heap.size v (sitesTo S 7) ∧ Below w.heap.size w w' := by
  have hw : Below w.heap.size w w := Below.refl _ _
  have hz : (b.n == 0) = false := by rw [beq_eq_false_iff_ne]; exact hn
  have hg := hb.lt
  have c3 : w.cell? ⟨g, 3, none⟩ = some (.int .i64 b.n) := hb.cell 3
  have H := Lib.hid hb
  clear hb hn
  go_enter Try.func42, Try.ntmps42
  go_wp2_with fail
  refine (none_any g b.n w c3).mono ?_
  rintro e w1 ⟨rfl, rfl⟩
  rw [hz]
  clear c3
  go_wp2_with ((with_reducible refine at_list ?_); refine wpList_load_part rfl 60 _ rfl g 5 rfl _ _ (hadv S) H.out (balv_hads b S sl) _ Try.underlying60 rfl had7_info ?_)
  go_loopg [3, 12] 7 (fun q v i wr => ∃ j : Nat, q = 7 - j ∧ j ≤ 7 ∧ i = .int .i64 j ∧ Below w1.heap.size w1 wr ∧ RowI wr w1.heap.size v (sitesTo S j))
  case atStart => exact ⟨0, rfl, by omega, rfl, hw, RowI.nil w1 _⟩
  case round =>
    clear hw
    obtain ⟨j, hq, hj, rfl, hwr, hR⟩ := hrel
    have AA : Aside (gk = 7 - j) := hq
    clear hq
    by_cases hlt : j < 7
    · have hi7 : (j : Int) < 7 := by omega
      have hi0 : (0 : Int) ≤ (j : Int) := by omega
      have hix := idxS S j hlt wr
      cases hS : S j with
      | none =>
        have HS := Lib.hid hS
        rw [hS] at hix
        clear hS
        have hix' : (Instr.index 60 (.agg (hadv S).toArray) (.int .i64 (j : Int))).run Try.prog wr = .ok (.bool false) wr := hix
        clear hix
        go_wp2_with fail
        go_roundg (7 - (j + 1))
        case measure => have hkk := AA.out; omega
        case rel => exact ⟨j + 1, rfl, by omega, by go_num, hwr, by rw [sitesTo_none HS.out]; exact hR⟩
      | some r =>
        have HS := Lib.hid hS
        rw [hS] at hix
        clear hS
        have hix' : (Instr.index 60 (.agg (hadv S).toArray) (.int .i64 (j : Int))).run Try.prog wr = .ok (.bool true) wr := hix
        clear hix
        have hl7 := sitesTo_len S j
        have hl8 := listTo_len S j
        have hW : Below w1.heap.size w1 (wr.alloc (.cells #[.int .i64 (j : Int)] 3)) := hwr.alloc hwr.size _
        obtain ⟨v2, w2, hrun, hO2, hg2, _⟩ := append_one (P := Try.prog) (W := wr) 78 Try.underlying78 int_info rfl (by omega) hR [.int .i64 (j : Int)] rfl (by simp [Value.oneCell']) (by simp only [maxLen]; omega) (by omega) hwr.size rfl
        have hb2 := below_own hwr hg2 hR hwr.size
        clear hg2 hR hl7 hl8 hW
        go_wp2_with (at_builtin; refine wpList_app rfl (by rfl) (by rfl) (by rfl) hrun ?_)
        go_roundg (7 - (j + 1))
        case measure => have hkk := AA.out; omega
        case rel =>
          refine ⟨j + 1, rfl, by omega, by go_num, hb2, ?_⟩
          rw [sitesTo_some HS.out]
          unfold RowI
          rw [List.length_append, List.map_append]
          exact hO2
    · have hj' : j = 7 := by omega
      subst hj'
      clear hlt
      go_wp2_with fail
      go_ret
      exact ⟨_, rfl, hR, hwr⟩
end Go.Proofs.Ytbicefilfhcgoaa

set_option linter.unusedSimpArgs false
set_option linter.unusedVariables false
set_option maxRecDepth 100000
namespace Go.Proofs.Ytbicefilfhcgoaa
open Go Go.RowKit Go.Sq Go.Wd Go.Arch

theorem grown_setCells {g : Nat} : ∀ (vs : List Value) (o : Nat) (w : World), w.grownBy (w.setCells g o vs) (some g)
  | [], _, w => World.grownBy.refl w _
  | v :: r, o, w => by
    have h1 : w.grownBy (w.setCell ⟨g, o, none⟩ v) (some g) := by (repeat (first | with_reducible apply only_drew | with_reducible refine only_setCell ?_ (by first | exact Or.inl rfl | (right; simp; done) | (right; simp; omega) | (right; omega)) _ | with_reducible refine only_alloc ?_ _ | with_reducible exact World.grownBy.refl _ _ | with_reducible assumption))
    exact only_trans h1 (grown_setCells r (o + 1) (w.setCell ⟨g, o, none⟩ v))

theorem rgvc_one (r : RegS) (sl : SlcE) : ∀ v ∈ rgv r sl, v.oneCell' = true := by simp [rgv, Value.oneCell']

set_option maxHeartbeats 2000000 in
theorem put_any (g k : Nat) (b : BegS) (S : Slots) (sl : Sls) (r : RegS) (s : SlcE) (w : World) (hb : Blk w g 85 (balv b S sl)) (hk : k < 7) (hl : LogAt w w.heap.size s r.log) (h2 : r.log.length ≤ 2000) :
    Calls Try.prog 51 #[.pointer (some ⟨g, 0, none⟩), .int .i64 (k : Int), .agg (rgv r s).toArray] w fun e w' => e = .returned (.tuple #[]) ∧ ∃ s' : SlcE, Blk w' g 85 (balv b (put7 S k r) (upS sl k s')) ∧ Row w' w.heap.size (slw s') r.log ∧ Kept w w' (some g) none := by
  have hz : Below w.heap.size w (w.alloc (.cells (rgv r s).toArray 24)) := (Below.refl _ _).alloc (Nat.le_refl _) _
  have BR := Blk.new w 24 (rgv r s)
  have hg := hb.lt
  have HH := Lib.hid (And.intro hz (And.intro (hb.keep hz) (hl.keep hz)))
  clear hz hb hl
  have hi7 : (k : Int) < 7 := by omega
  have hi0 : (0 : Int) ≤ (k : Int) := by omega
  go_enter Try.func51, Try.ntmps51
  go_wp2_with fail
  refine wp_region_p ([(0, true), (1, true), (2, true), (3, true), (4, true), (6, true), (7, true), (10, true), (11, true), (5, false), (8, true), (9, false), (12, true), (13, false)]) (fun w' => Blk w' w.heap.size 24 (rgv r s)) (by kernel_rfl) rfl (by kernel_rfl) (by kernel_rfl) (BR.drew) rfl ?_
  intro KP RP TP hKP hTP hTP'
  simp only [pick, nth]
  go_wp2_with (first
    | (apply SeqP.skip; rfl; simp only [Act.put, List.setIfInBounds_toArray, List.set_cons_zero, List.set_cons_succ])
    | (apply SeqP.pure; rfl; (intro w2 hw; have hw := hTP _ hw; exact exec_load_blk 24 _ rfl _ rfl _ _ hw _ Try.underlying24 rfl rg_info); simp only [Act.put, List.setIfInBounds_toArray, List.set_cons_zero, List.set_cons_succ])
    | (apply SeqP.call; rfl; rfl; (intro w2 hw; have hw := hTP _ hw; (skip); go_simp; exact ⟨rfl, rfl⟩); (intro w2 hw; have hw := hTP _ hw; (skip); (first | fail)); simp only [Act.put, List.setIfInBounds_toArray, List.set_cons_zero, List.set_cons_succ])
    | (apply SeqP.pure; rfl; (intro w2 hw; have hw := hTP _ hw; (skip); go_simp; with_reducible rfl); simp only [Act.put, List.setIfInBounds_toArray, List.set_cons_zero, List.set_cons_succ])
    | (apply SeqP.split; rfl; rfl; all_goals (intro hc; simp only [hc]; try simp only [beq_iff_eq, decide_eq_true_eq, beq_eq_false_iff_ne, decide_eq_false_iff_not, bne_iff_ne, ne_eq, Bool.not_eq_true', Bool.not_eq_false', Int.not_le, Int.not_lt, bne_eq_false_iff_eq, Bool.or_eq_true, Bool.and_eq_true, Bool.or_eq_false_iff] at hc)))
  apply SeqP.eff
  · rfl
  intro KE hKE
  go_wp2_with fail
  refine (regclone_any r s _ (HH.out.2.2.keep (Below.refl _ _).drew) h2).mono ?_
  rintro e w1 ⟨s', rfl, hR, hb⟩
  have hbz := Below.drew (HH.out.1)
  have hw1 := below_trans hbz hb hbz.size
  have B1 := HH.out.2.1.drew.keep hb
  have R1 := BR.drew.keep hb
  have hR1 := hR.base (B' := w.heap.size) (by simp)
  refine hKE _ _ (hTP' _ R1) ?_
  clear hKE hb hR BR HH hbz
  have hc := B1.cell (5 + k)
  rw [balv_had b S sl hk] at hc
  have fr := B1.frozen
  go_wp2_with (first
    | (apply SeqP.skip; rfl; simp only [Act.put, List.setIfInBounds_toArray, List.set_cons_zero, List.set_cons_succ])
    | (apply SeqP.call; rfl; rfl; (intro w2 hw; have hw := hTP _ hw; (skip); go_simp; exact ⟨rfl, rfl⟩); (intro w2 hw; have hw := hTP _ hw; (skip); (first | fail)); simp only [Act.put, List.setIfInBounds_toArray, List.set_cons_zero, List.set_cons_succ])
    | (apply SeqP.pure; rfl; (intro w2 hw; have hw := hTP _ hw; (skip); go_simp; with_reducible rfl); simp only [Act.put, List.setIfInBounds_toArray, List.set_cons_zero, List.set_cons_succ])
    | (apply SeqP.split; rfl; rfl; all_goals (intro hc; simp only [hc]; try simp only [beq_iff_eq, decide_eq_true_eq, beq_eq_false_iff_ne, decide_eq_false_iff_not, bne_iff_ne, ne_eq, Bool.not_eq_true', Bool.not_eq_false', Int.not_le, Int.not_lt, bne_eq_false_iff_eq, Bool.or_eq_true, Bool.and_eq_true, Bool.or_eq_false_iff] at hc)))
  apply SeqP.eff
  · rfl
  intro KE hKE
  go_wp2_with fail
  have hne : w.heap.size ≠ g := by omega
  have B2 := B1.set (5 + k) (.bool true)
  have R2 : Blk (w1.setCell ⟨g, 5 + k, none⟩ (.bool true)) w.heap.size 24 (rgv r s) := R1.far (p := ⟨g, 5 + k, none⟩) hne _
  have g2 : w1.grownBy (w1.setCell ⟨g, 5 + k, none⟩ (.bool true)) (some g) := by (repeat (first | with_reducible apply only_drew | with_reducible refine only_setCell ?_ (by first | exact Or.inl rfl | (right; simp; done) | (right; simp; omega) | (right; omega)) _ | with_reducible refine only_alloc ?_ _ | with_reducible exact World.grownBy.refl _ _ | with_reducible assumption))
  refine hKE _ _ (hTP' _ R2) ?_
  clear hKE
  go_wp2_with (first
    | (apply SeqP.skip; rfl; simp only [Act.put, List.setIfInBounds_toArray, List.set_cons_zero, List.set_cons_succ])
    | (apply SeqP.call; rfl; rfl; (intro w2 hw; have hw := hTP _ hw; (skip); go_simp; exact ⟨rfl, rfl⟩); (intro w2 hw; have hw := hTP _ hw; (skip); (first | fail)); simp only [Act.put, List.setIfInBounds_toArray, List.set_cons_zero, List.set_cons_succ])
    | (apply SeqP.pure; rfl; (intro w2 hw; have hw := hTP _ hw; (skip); go_simp; with_reducible rfl); simp only [Act.put, List.setIfInBounds_toArray, List.set_cons_zero, List.set_cons_succ])
    | (apply SeqP.split; rfl; rfl; all_goals (intro hc; simp only [hc]; try simp only [beq_iff_eq, decide_eq_true_eq, beq_eq_false_iff_ne, decide_eq_false_iff_not, bne_iff_ne, ne_eq, Bool.not_eq_true', Bool.not_eq_false', Int.not_le, Int.not_lt, bne_eq_false_iff_eq, Bool.or_eq_true, Bool.and_eq_true, Bool.or_eq_false_iff] at hc)))
  apply SeqP.eff
  · rfl
  intro KE hKE
  have B3 := B2.setCells (rgv r s') (12 + k * 4)
  have R3 := R2.setCellsFar hne (rgv r s') (12 + k * 4)
  have g3 := only_trans g2 (grown_setCells (rgv r s') (12 + k * 4) (w1.setCell ⟨g, 5 + k, none⟩ (.bool true)))
  rw [balv_put b S sl hk r s'] at B3
  have hth : (w1.setCell ⟨g, 5 + k, none⟩ (.bool true)).there g (12 + k * 4) (rgv r s').toArray.size := fun j hj => ⟨by
    have hj : j < 4 := hj
    rw [B2.cell, List.getElem?_eq_getElem (by rw [List.length_set, balv_len]; omega)]
    rfl, B2.frozen _⟩
  refine wp_store_mid 24 _ _ rfl g (12 + k * 4) (rgv r s').toArray rfl rfl hth rg_info (all_oneCell_toArray (rgvc_one r s')) ?_
  generalize ((w1.setCell ⟨g, 5 + k, none⟩ (.bool true)).setCells g (12 + k * 4) (rgv r s').toArray.toList) = w3 at *
  refine hKE _ _ (hTP' _ R3) ?_
  clear hKE
  apply SeqP.nil
  refine hKP _ _ (hTP' _ (R3)) ?_
  clear hKP hTP hTP'
  go_wp2_with fail
  refine bodyPost_end (results_none rfl _ _ _) rfl ?_
  refine ⟨rfl, s'.1, s'.2.1, s'.2.2, B3, ?_, (Kept.ofBelow hw1 _ _).trans (Kept.ofGrown g3)⟩
  exact own_beside hR1 g3 (blk_not B1 (by decide))
end Go.Proofs.Ytbicefilfhcgoaa

set_option linter.unusedSimpArgs false
set_option linter.unusedVariables false
set_option maxRecDepth 100000
namespace Go.Proofs.Ytbicefilfhcgoaa
open Go Go.RowKit Go.Sq Go.Wd Go.Arch

theorem listV_at {S : Slots} {sl : Sls} : ∀ (j k : Nat) (r : RegS), (listTo S j)[k]? = some r → ∃ i, i < j ∧ S i = some r ∧ (listV S sl j)[k]? = some (vOf r (sl i))
  | 0, k, r, h => by simp [listTo] at h
  | j + 1, k, r, h => by
    have hl := listV_len S sl j
    cases hS : S j with
    | none =>
      rw [listTo_none hS] at h
      obtain ⟨i, h1, h2, h3⟩ := listV_at j k r h
      exact ⟨i, by omega, h2, by rw [listV_none hS]; exact h3⟩
    | some q =>
      rw [listTo_some hS] at h
      rcases Nat.lt_or_ge k (listTo S j).length with hk | hk
      · rw [List.getElem?_append_left hk] at h
        obtain ⟨i, h1, h2, h3⟩ := listV_at j k r h
        exact ⟨i, by omega, h2, by rw [listV_some hS, List.getElem?_append_left (by omega)]; exact h3⟩
      · rw [List.getElem?_append_right hk] at h
        have hk0 : k - (listTo S j).length = 0 := by
          have := (List.getElem?_eq_some_iff.1 h).1
          simp at this
          omega
        rw [hk0] at h
        cases h
        exact ⟨j, by omega, hS, by rw [listV_some hS, List.getElem?_append_right (by omega), hl, hk0]; rfl⟩
theorem listV_rank {S : Slots} {sl : Sls} (h : ∀ i, i < 7 → (sl i).2.1 = (regOf S i).log.length) : ∀ j, j ≤ 7 → (listV S sl j).map rankOf = (listTo S j).map rankS
  | 0, _ => rfl
  | j + 1, hj => by
    have ih := listV_rank h j (by omega)
    cases hS : S j with
    | none => rw [listV_none hS, listTo_none hS, ih]
    | some r =>
      have h1 := h j (by omega)
      unfold regOf at h1
      rw [hS] at h1
      rw [listV_some hS, listTo_some hS, List.map_append, List.map_append, ih]
      simp only [List.map_cons, List.map_nil]
      unfold vOf rankOf rankS
      rw [h1]
      rfl
theorem regs_of {w : World} {B : Nat} {A : Option Addr} {l : List RegV} (h : Gr.Sl regE w B A l) : Regs w B A l := fun hl => by
  obtain ⟨b, off, ha, hB, hc⟩ := h hl
  refine ⟨b, off, ha, hB, fun i r hr => ?_⟩
  have hk := hc i r hr
  exact ⟨hk 0 (by show 0 < 4; omega), hk 1 (by show 1 < 4; omega), hk 2 (by show 2 < 4; omega), hk 3 (by show 3 < 4; omega)⟩
theorem row_len {w : World} {B : Nat} {s : SlcE} {l : List Ent} (h : Row w B (slw s) l) : s.2.1 = l.length := by
  obtain ⟨⟨a', n', c'⟩, he, hl⟩ := h.log
  obtain ⟨a, n, c⟩ := s
  unfold slw at he
  cases he
  exact hl.1

set_option maxHeartbeats 4000000 in
theorem chosen_any (B g : Nat) (b : BegS) (S : Slots) (w : World) (H : BalAt w B g b S) (hn : sitesE b.n = true) (hlog : ∀ i, i < 7 → (regOf S i).log.length ≤ 64) :
    Calls Try.prog 32 #[.pointer (some ⟨g, 0, none⟩)] w fun e w' => ∃ v, e = .returned (.tuple #[v, .int .i64 (chosenS b S).2.1, .int .i64 (chosenS b S).2.2]) ∧ Row w' w.heap.size v (chosenS b S).1 ∧ Below w.heap.size w w' := by
  obtain ⟨sl, hb, hr⟩ := H
  have hn0 : b.n ≠ 0 := by rcases sites_cases hn with e | e | e | e | e | e <;> omega
  have hz : (b.n == 0) = false := by rw [beq_eq_false_iff_ne]; exact hn0
  have hw : Below w.heap.size w w := Below.refl _ _
  have c3 : w.cell? ⟨g, 3, none⟩ = some (.int .i64 b.n) := hb.cell 3
  have hN := Lib.hid hn
  have HN0 := Lib.hid hn0
  have H := Lib.hid (And.intro hb (And.intro hr hlog))
  have hg := hb.lt
  clear hb hr hn hn0 hlog
  go_enter Try.func32, Try.ntmps32
  go_wp2_with fail
  refine (none_any g b.n w c3).mono ?_
  rintro e w1 ⟨rfl, rfl⟩
  rw [hz]
  clear c3
  go_wp2_with fail
  refine (won_any g b S sl _ H.out.1 HN0.out).mono ?_
  rintro e w2 ⟨rfl, hb2⟩
  cases hwon : wonS b S with
  | false =>
    have HW := Lib.hid hwon
    clear hwon
    go_wp2_with fail
    apply ret_of
    · simp only [results, Try.results32]
      go_simp
      with_reducible rfl
    refine ⟨rfl, ?_⟩
    have hc : chosenS b S = ([], 0, 4) := by
      unfold chosenS
      rw [HW.out]
      rfl
    rw [hc]
    exact ⟨_, rfl, Row.nil _ _, hb2⟩
  | true =>
    have HW := Lib.hid hwon
    clear hwon
    go_wp2_with fail
    refine (list_any g b S sl _ (H.out.1.keep hb2)).mono ?_
    rintro e w3 ⟨v, rfl, hR, hb3⟩
    have hw3 := below_trans hb2 hb3 hb2.size
    have hwin : 0 < (listTo S 7).length := by
      have h1 := HW.out
      unfold wonS majE at h1
      rw [if_pos hN.out] at h1
      simp only [decide_eq_true_eq] at h1
      rcases sites_cases hN.out with e | e | e | e | e | e <;> rw [e] at h1 <;> omega
    obtain ⟨A, c, rfl, hlc, hc2, hSl⟩ := Gr.Row.form hR
    have hll := listV_len S sl 7
    have hl7 := listTo_len S 7
    have hrk := listV_rank (S := S) (sl := sl) (fun i hi => row_len (H.out.2.1 i hi)) 7 (Nat.le_refl _)
    obtain ⟨p, hp1, hp2, hp3⟩ := bestAt_is hwin
    obtain ⟨i, hi7, hSi, hLi⟩ := listV_at (sl := sl) 7 _ _ hp2
    have hbest : bestL ((listV S sl 7).map rankOf) = ((bestAt S : Nat) : Int) := by
      rw [hrk]
      unfold bestL bestAt
      rw [List.length_map, if_neg (by omega)]
    have hbl : bestLog S = p.2.log := by
      unfold bestLog
      rw [hp2]
      rfl
    have HL := Lib.hid (And.intro hll (And.intro hl7 (And.intro hwin (And.intro hbest hbl))))
    have HS := Lib.hid (And.intro hSi hLi)
    have HSl := Lib.hid hSl
    clear hll hl7 hwin hrk hbest hbl hSi hLi hSl hp1 hp3 hR
    have HP2 := Lib.hid hp2
    clear hp2 hb3
    go_wp2_with fail
    have hb1 := best_any (listV S sl 7) A c w3 (regs_of HSl.out) (by have := HL.out.1; have := HL.out.2.1; omega)
    rw [HL.out.2.2.2.1] at hb1
    refine hb1.mono ?_
    clear hb1
    rintro e w4 ⟨rfl, hb4⟩
    have hw4 := below_trans hw3 hb4 hw3.size
    have hkl : bestAt S < (listV S sl 7).length := by
      have := (List.getElem?_eq_some_iff.1 HS.out.2).1
      exact this
    obtain ⟨bA, oA, eA, rfl, hAt, hbA, FA⟩ := Gr.Sl.at_ HSl.out hkl
    have he : eA = vOf p.2 (sl i) := by
      have := hAt.out
      rw [HS.out.2] at this
      exact (Option.some.inj this).symm
    subst he
    have q2 := FA w4 hb4 2 (by show 2 < 4; omega)
    have hk0 : (0 : Int) ≤ (bestAt S : Int) := by omega
    have hk1 : (bestAt S : Int) < ((listV S sl 7).length : Int) := by omega
    have q2' : w4.cell? ⟨bA, oA + bestAt S * 4 + 2, none⟩ = some (.slice (sl i).1 (sl i).2.1 (sl i).2.2) := q2
    have HA := Lib.hid FA
    have HAt := Lib.hid hAt
    clear q2 FA hAt
    go_wp2_with fail
    have hRi := (H.out.2.1 i hi7).keep hw4
    have hreg : regOf S i = p.2 := by
      unfold regOf
      rw [HS.out.1]
      rfl
    have h64 := H.out.2.2 i hi7
    rw [hreg] at hRi h64
    have hn1 := row_len hRi
    have hLi : LogAt w4 w4.heap.size ((sl i).1, p.2.log.length, (sl i).2.2) p.2.log := by
      have := Row.logAt (sl := sl i) hRi
      unfold LogAt at this ⊢
      exact ⟨rfl, by have h2 := this.2.1; exact h2, this.2.2.1, this.2.2.2⟩
    rw [hn1]
    refine (clone_any p.2.log (sl i).1 (sl i).2.2 w4 hLi (by omega)).mono ?_
    rintro e w5 ⟨vl, rfl, hR5, hb5⟩
    have hw5 := below_trans hw4 hb5 hw4.size
    have hb45 := below_trans hb4 hb5 hb4.size
    obtain ⟨⟨A5, n5, c5⟩, rfl, hL5⟩ := hR5.log
    obtain rfl : n5 = p.2.log.length := hL5.1
    have HR5 := Lib.hid (hR5.base (B' := w1.heap.size) hw4.size)
    clear hR5 hL5 hLi hRi hreg hn1 hb5 hb4 q2'
    generalize hnn : p.2.log.length = nn at *
    have HNN := Lib.hid hnn
    clear hnn
    go_wp2_with fail
    go_loopg [3, 26] (listV S sl 7).length (fun q cm ix wr => ∃ j : Nat, q = (listV S sl 7).length - j ∧ j ≤ (listV S sl 7).length ∧ cm = .int .i64 (comTo nn 0 ((listTo S 7).take j)) ∧ ix = .int .i64 j ∧ Below w5.heap.size w5 wr)
    case atStart => exact ⟨0, rfl, by omega, rfl, rfl, Below.refl _ _⟩
    case round =>
      obtain ⟨j, hq, hj, rfl, rfl, hwr⟩ := hrel
      have AA : Aside (gk = (listV S sl 7).length - j) := hq
      clear hq
      by_cases hlt : j < (listV S sl 7).length
      · have j0 : (0 : Int) ≤ (j : Int) := by omega
        have j1 : (j : Int) < ((listV S sl 7).length : Int) := by omega
        obtain ⟨rj, hrj⟩ : ∃ r, (listTo S 7)[j]? = some r := ⟨_, List.getElem?_eq_getElem (by have := HL.out.1; omega)⟩
        obtain ⟨ij, hij, hSj, hLj⟩ := listV_at (sl := sl) 7 _ _ hrj
        have HRJ := Lib.hid (And.intro hrj hSj)
        obtain ⟨bB, oB, eB, hAB, hBt, hbB, FB⟩ := Gr.Sl.at_ HSl.out hlt
        cases hAB
        have he : eB = vOf rj (sl ij) := by
          have := hBt.out
          rw [hLj] at this
          exact (Option.some.inj this).symm
        subst he
        have hbw := below_trans hb45 hwr hb45.size
        have p0 : wr.cell? ⟨bA, oA + j * 4, none⟩ = some (.int .i64 rj.prom) := FB wr hbw 0 (by show 0 < 4; omega)
        have p1 : wr.cell? ⟨bA, oA + j * 4 + 1, none⟩ = some (.int .i64 rj.view) := FB wr hbw 1 (by show 1 < 4; omega)
        have p2 : wr.cell? ⟨bA, oA + j * 4 + 2, none⟩ = some (.slice (sl ij).1 (sl ij).2.1 (sl ij).2.2) := FB wr hbw 2 (by show 2 < 4; omega)
        have p3 : wr.cell? ⟨bA, oA + j * 4 + 3, none⟩ = some (.int .i64 rj.com) := FB wr hbw 3 (by show 3 < 4; omega)
        have hsn := comTo_snoc nn 0 ((listTo S 7).take j) rj
        have htk : (listTo S 7).take (j + 1) = (listTo S 7).take j ++ [rj] := by
          rw [List.take_add_one, hrj]
          rfl
        rw [← htk] at hsn
        have HSN := Lib.hid hsn
        clear hsn htk hrj hSj hLj hBt FB
        generalize comTo nn 0 ((listTo S 7).take j) = cj at HSN ⊢
        generalize hrc : rj.com = rc at p3 HSN ⊢
        clear hrc
        have hsz := hwr.size
        have hcases : (rc ≤ (nn : Int) ∧ cj < rc) ∨ (rc ≤ (nn : Int) ∧ ¬ cj < rc) ∨ ¬ rc ≤ (nn : Int) := by omega
        rcases hcases with ⟨hcm, hmx⟩ | ⟨hcm, hmx⟩ | hcm
        · have HE := Lib.hid (HSN.out.trans ((if_pos hcm).trans (show max cj rc = rc by omega)))
          clear HSN
          go_wp2_with fail
          go_roundg ((listV S sl 7).length - (j + 1))
          case measure => have hkk := AA.out; omega
          case rel => exact ⟨j + 1, rfl, by omega, by rw [HE.out], by go_num, by (repeat (first | with_reducible apply Below.drew | with_reducible refine Below.setCell ?_ (by first | exact Nat.le_refl _ | (simp; done) | (simp; omega) | omega) _ | with_reducible refine Below.alloc ?_ (by first | exact Nat.le_refl _ | (simp; done) | (simp; omega) | omega) _ | with_reducible exact Below.refl _ _ | with_reducible assumption))⟩
        · have HE := Lib.hid (HSN.out.trans ((if_pos hcm).trans (show max cj rc = cj by omega)))
          clear HSN
          go_wp2_with fail
          go_roundg ((listV S sl 7).length - (j + 1))
          case measure => have hkk := AA.out; omega
          case rel => exact ⟨j + 1, rfl, by omega, by rw [HE.out], by go_num, by (repeat (first | with_reducible apply Below.drew | with_reducible refine Below.setCell ?_ (by first | exact Nat.le_refl _ | (simp; done) | (simp; omega) | omega) _ | with_reducible refine Below.alloc ?_ (by first | exact Nat.le_refl _ | (simp; done) | (simp; omega) | omega) _ | with_reducible exact Below.refl _ _ | with_reducible assumption))⟩
        · have HE := Lib.hid (HSN.out.trans (if_neg hcm))
          clear HSN
          go_wp2_with fail
          go_roundg ((listV S sl 7).length - (j + 1))
          case measure => have hkk := AA.out; omega
          case rel => exact ⟨j + 1, rfl, by omega, by rw [HE.out], by go_num, by (repeat (first | with_reducible apply Below.drew | with_reducible refine Below.setCell ?_ (by first | exact Nat.le_refl _ | (simp; done) | (simp; omega) | omega) _ | with_reducible refine Below.alloc ?_ (by first | exact Nat.le_refl _ | (simp; done) | (simp; omega) | omega) _ | with_reducible exact Below.refl _ _ | with_reducible assumption))⟩
      · have hje : j = (listTo S 7).length := by have := HL.out.1; omega
        have hj' : ¬ (j : Int) < ((listV S sl 7).length : Int) := by omega
        have hcc : chosenS b S = (p.2.log, comTo nn 0 ((listTo S 7).take j), 0) := by
          unfold chosenS
          rw [if_pos HW.out, HL.out.2.2.2.2, HNN.out, hje, List.take_length]
        have HC := Lib.hid hcc
        clear hcc hje
        generalize comTo nn 0 ((listTo S 7).take j) = cj at HC ⊢
        go_wp2_with fail
        apply ret_of
        · simp only [results, Try.results32]
          go_simp
          with_reducible rfl
        refine ⟨rfl, ?_⟩
        rw [HC.out]
        have hfin := below_trans hw5 hwr hw5.size
        have hrow := HR5.out.keep hwr
        exact ⟨_, rfl, hrow, hfin⟩
end Go.Proofs.Ytbicefilfhcgoaa

set_option linter.unusedSimpArgs false
set_option linter.unusedVariables false
set_option maxRecDepth 100000
namespace Go.Proofs.Ytbicefilfhcgoaa
open Go Go.RowKit Go.Sq Go.Wd Go.Arch

theorem bal_fresh (b : BegS) : balv b no7 (fun _ => no0) = [.int .i64 b.stream, .int .i64 b.epoch, .int .i64 b.site, .int .i64 b.n, .int .i64 b.stamp, .bool false, .bool false, .bool false, .bool false, .bool false, .bool false, .bool false,
    .int .i64 0, .int .i64 0, .slice none 0 0, .int .i64 0, .int .i64 0, .int .i64 0, .slice none 0 0, .int .i64 0, .int .i64 0, .int .i64 0, .slice none 0 0, .int .i64 0, .int .i64 0, .int .i64 0, .slice none 0 0, .int .i64 0,
    .int .i64 0, .int .i64 0, .slice none 0 0, .int .i64 0, .int .i64 0, .int .i64 0, .slice none 0 0, .int .i64 0, .int .i64 0, .int .i64 0, .slice none 0 0, .int .i64 0] := rfl
theorem of_in {e n s : Int} (hn : sitesE n = true) (h0 : 0 ≤ s) (h : ofE e n = s) : s < n := by
  unfold ofE at h
  split at h
  · rcases sites_cases hn with rfl | rfl | rfl | rfl | rfl | rfl <;> omega
  · omega
def NewPost (b : BegS) (own : RegS) (w : World) (e : Ending) (w' : World) : Prop :=
  (newOk b own ∧ ∃ g, e = .returned (.tuple #[.pointer (some ⟨g, 0, none⟩), .int .i64 0]) ∧ w.heap.size ≤ g ∧ BalAt w' w.heap.size g b (put7 no7 b.site.toNat own) ∧ Below w.heap.size w w') ∨
  (¬ newOk b own ∧ e = .returned (.tuple #[.pointer none, .int .i64 2]) ∧ Below w.heap.size w w')

set_option maxHeartbeats 4000000 in
theorem new_any (b : BegS) (own : RegS) (s : SlcE) (w : World) (hl : LogAt w w.heap.size s own.log) (h2 : own.log.length ≤ 2000) :
    Calls Try.prog 30 #[.int .i64 b.stream, .int .i64 b.epoch, .int .i64 b.site, .int .i64 b.n, .int .i64 b.stamp, .agg (rgv own s).toArray] w fun e w' => NewPost b own w e w' := by
  have hz : Below w.heap.size w (w.alloc (.cells (rgv own s).toArray 24)) := (Below.refl _ _).alloc (Nat.le_refl _) _
  have BR := Blk.new w 24 (rgv own s)
  have HL := Lib.hid (And.intro (hl.keep hz) hz)
  have FC : ∀ w', Below w.heap.size w w' ∧ Blk w' w.heap.size 24 (rgv own s) → w'.cell? ⟨w.heap.size, 0, none⟩ = some (.int .i64 own.prom) ∧ w'.cell? ⟨w.heap.size, 1, none⟩ = some (.int .i64 own.view) := fun w' h => ⟨h.2.cell 0, h.2.cell 1⟩
  clear hl
  by_cases hok : newOk b own
  case pos =>
    have HO := Lib.hid hok
    obtain ⟨g1, g2, g3, g4, g5, g6, g7, g8, g9⟩ := hok
    have hs7 := of_in g3 g4 g5
    unfold sitesE at g3
    simp only [decide_eq_true_eq] at g3
    have f1 : ¬ b.stream < 0 := by omega
    have f2 : ¬ (4 : Int) ≤ b.stream := by omega
    have f3 : ¬ b.n < 2 := by omega
    have f4 : ¬ (7 : Int) < b.n := by omega
    have f5 : ¬ b.site < 0 := by omega
    have f6 : (ofE b.epoch b.n != b.site) = false := by simpa using g5
    have f7 : ¬ (1048576 : Int) < b.epoch := by omega
    have f7' : decide ((1048576 : Int) < b.epoch) = false := by simpa using f7
    have f8 : (own.prom != b.epoch) = false := by simpa using g8
    have f9 : ¬ b.epoch ≤ own.view := by omega
    have HG := Lib.hid (And.intro g5 (And.intro g8 g7))
    clear g5 g8 g7
    go_enter Try.func30, Try.ntmps30
    go_wp2_with fail
    refine (of_any _ _ _).mono ?_
    rintro e w1 ⟨rfl, rfl⟩
    go_wp2_with ((with_reducible refine at_list ?_); first | refine wpList_load_blk_g 24 _ rfl rfl _ rfl _ _ _ (BR) Try.underlying24 rfl rg_info ?_)
    refine (check15_any own s _ HL.out.1).mono ?_
    rintro e w2 ⟨rfl, hb⟩
    rw [HG.out.2.2]
    have hw2 := below_trans HL.out.2 hb HL.out.2.size
    have R2 := BR.keep hb
    have L2 := HL.out.1.keep hb
    obtain ⟨q0, q1⟩ := FC w2 ⟨hw2, R2⟩
    have hsz := hw2.size
    have HX := Lib.hid (And.intro hw2 (And.intro R2 L2))
    have hlt := R2.lt
    clear hb FC HL BR hw2 L2
    have R3 := R2.alloc (.cells (balv b no7 (fun _ => no0)).toArray 85)
    rw [bal_fresh] at R3
    clear R2
    go_wp2_with ((with_reducible refine at_list ?_); first | refine wpList_load_blk rfl 24 _ rfl _ rfl _ _ _ (R3) Try.underlying24 rfl rg_info ?_)
    have hwA := HX.out.1.alloc hsz (.cells (balv b no7 (fun _ => no0)).toArray 85)
    have hp := put_any w2.heap.size b.site.toNat b no7 (fun _ => no0) own s (w2.alloc (.cells (balv b no7 (fun _ => no0)).toArray 85)) (Blk.new w2 _ _) (by omega)
      (HX.out.2.2.keep ((Below.refl _ _).alloc (Nat.le_refl _) _)) h2
    rw [show ((b.site.toNat : Nat) : Int) = b.site by omega] at hp
    rw [bal_fresh] at hp hwA
    refine hp.mono ?_
    clear hp
    rintro e w3 ⟨rfl, s', hB3, hR3, hK3⟩
    have hw3 := hwA.trans (hK3.below (B := w.heap.size) (fun k e => by cases e; omega) (fun k e => by cases e) (by simp; omega))
    have HF := Lib.hid (And.intro hB3 (And.intro hR3 hw3))
    clear hB3 hR3 hw3 hwA hK3 R3
    go_wp2_with fail
    go_ret2
    refine .inl ⟨HO.out, _, rfl, hsz, ⟨_, HF.out.1, fun i hi => ?_⟩, HF.out.2.2⟩
    by_cases hik : i = b.site.toNat
    · subst hik
      rw [upS_at, regOf_at]
      exact HF.out.2.1.base (by simp; omega)
    · rw [upS_far _ _ hik, regOf_far _ _ hik]
      exact Row.nil _ _
  case neg =>
    have HO := Lib.hid hok
    clear hok
    by_cases c1 : b.stream < 0
    · go_enter Try.func30, Try.ntmps30
      go_wp2_with fail
      go_ret2
      exact .inr ⟨HO.out, rfl, hz⟩
    by_cases c2 : (4 : Int) ≤ b.stream
    · go_enter Try.func30, Try.ntmps30
      go_wp2_with fail
      go_ret2
      exact .inr ⟨HO.out, rfl, hz⟩
    by_cases c3 : b.n < 2
    · go_enter Try.func30, Try.ntmps30
      go_wp2_with fail
      go_ret2
      exact .inr ⟨HO.out, rfl, hz⟩
    by_cases c4 : (7 : Int) < b.n
    · go_enter Try.func30, Try.ntmps30
      go_wp2_with fail
      go_ret2
      exact .inr ⟨HO.out, rfl, hz⟩
    by_cases c5 : b.site < 0
    · go_enter Try.func30, Try.ntmps30
      go_wp2_with fail
      go_ret2
      exact .inr ⟨HO.out, rfl, hz⟩
    have hs : sitesE b.n = true := by
      unfold sitesE
      simp only [decide_eq_true_eq]
      omega
    by_cases c6 : ofE b.epoch b.n = b.site
    case neg =>
      have f6 : (ofE b.epoch b.n != b.site) = true := by simpa using c6
      clear c6
      go_enter Try.func30, Try.ntmps30
      go_wp2_with fail
      refine (of_any _ _ _).mono ?_
      rintro e w1 ⟨rfl, rfl⟩
      go_wp2_with fail
      go_ret2
      exact .inr ⟨HO.out, rfl, hz⟩
    have c7 : ¬ (1048576 : Int) < b.epoch := by
      intro h
      unfold ofE at c6
      rw [if_neg (by omega)] at c6
      omega
    have f7' : decide ((1048576 : Int) < b.epoch) = false := by simpa using c7
    have f6 : (ofE b.epoch b.n != b.site) = false := by simpa using c6
    cases hm : mayR own with
    | false =>
      have HM := Lib.hid hm
      clear hm c6 hs
      go_enter Try.func30, Try.ntmps30
      go_wp2_with fail
      refine (of_any _ _ _).mono ?_
      rintro e w1 ⟨rfl, rfl⟩
      go_wp2_with ((with_reducible refine at_list ?_); first | refine wpList_load_blk_g 24 _ rfl rfl _ rfl _ _ _ (BR) Try.underlying24 rfl rg_info ?_)
      refine (check15_any own s _ HL.out.1).mono ?_
      rintro e w2 ⟨rfl, hb⟩
      rw [HM.out]
      have hw2 := below_trans HL.out.2 hb HL.out.2.size
      have R2 := BR.keep hb
      obtain ⟨q0, q1⟩ := FC w2 ⟨hw2, R2⟩
      clear hb FC HL BR
      go_wp2_with fail
      go_ret2
      exact .inr ⟨HO.out, rfl, hw2⟩
    | true =>
      have HM := Lib.hid hm
      by_cases c8 : own.prom = b.epoch
      case neg =>
        have f8 : (own.prom != b.epoch) = true := by simpa using c8
        clear hm c6 hs c8
        go_enter Try.func30, Try.ntmps30
        go_wp2_with fail
        refine (of_any _ _ _).mono ?_
        rintro e w1 ⟨rfl, rfl⟩
        go_wp2_with ((with_reducible refine at_list ?_); first | refine wpList_load_blk_g 24 _ rfl rfl _ rfl _ _ _ (BR) Try.underlying24 rfl rg_info ?_)
        refine (check15_any own s _ HL.out.1).mono ?_
        rintro e w2 ⟨rfl, hb⟩
        rw [HM.out]
        have hw2 := below_trans HL.out.2 hb HL.out.2.size
        have R2 := BR.keep hb
        obtain ⟨q0, q1⟩ := FC w2 ⟨hw2, R2⟩
        clear hb FC HL BR
        go_wp2_with fail
        go_ret2
        exact .inr ⟨HO.out, rfl, hw2⟩
      have c9 : b.epoch ≤ own.view := by
        by_cases h : b.epoch ≤ own.view
        · exact h
        · exact absurd ⟨by omega, by omega, hs, by omega, c6, by omega, hm, c8, by omega⟩ HO.out
      have f8 : (own.prom != b.epoch) = false := by simpa using c8
      clear hm c6 hs c8
      go_enter Try.func30, Try.ntmps30
      go_wp2_with fail
      refine (of_any _ _ _).mono ?_
      rintro e w1 ⟨rfl, rfl⟩
      go_wp2_with ((with_reducible refine at_list ?_); first | refine wpList_load_blk_g 24 _ rfl rfl _ rfl _ _ _ (BR) Try.underlying24 rfl rg_info ?_)
      refine (check15_any own s _ HL.out.1).mono ?_
      rintro e w2 ⟨rfl, hb⟩
      rw [HM.out]
      have hw2 := below_trans HL.out.2 hb HL.out.2.size
      have R2 := BR.keep hb
      obtain ⟨q0, q1⟩ := FC w2 ⟨hw2, R2⟩
      clear hb FC HL BR
      go_wp2_with fail
      go_ret2
      exact .inr ⟨HO.out, rfl, hw2⟩
end Go.Proofs.Ytbicefilfhcgoaa

set_option linter.unusedSimpArgs false
set_option linter.unusedVariables false
set_option maxRecDepth 100000
namespace Go.Proofs.Ytbicefilfhcgoaa
open Go Go.RowKit Go.Sq Go.Wd Go.Arch

structure MailV where
  m : MailS
  es : SlcE
  o : Int × Int × Int × Int × Int
  an : Int × Int × Int
def mailv (x : MailV) : List Value := [.int .i64 x.m.kind, .int .i64 x.m.from_, .int .i64 x.m.to, .int .i64 x.m.stream, .int .i64 x.m.epoch, .int .i64 x.m.view, .int .i64 x.m.base, .int .i64 x.m.len, .int .i64 x.m.stamp,
  .slice x.es.1 x.es.2.1 x.es.2.2, .int .i64 x.o.1, .int .i64 x.o.2.1, .int .i64 x.o.2.2.1, .int .i64 x.o.2.2.2.1, .int .i64 x.o.2.2.2.2, .int .i64 x.an.1, .int .i64 x.an.2.1, .int .i64 x.an.2.2]
theorem mail_len (x : MailV) : (mailv x).length = 18 := rfl
theorem mail_one (x : MailV) : ∀ v ∈ mailv x, v.oneCell' = true := fun v hv => by
  simp only [mailv, List.mem_cons, List.not_mem_nil, or_false] at hv
  rcases hv with rfl | rfl | rfl | rfl | rfl | rfl | rfl | rfl | rfl | rfl | rfl | rfl | rfl | rfl | rfl | rfl | rfl | rfl <;> rfl
def mailE : Gr.Enc Try.prog MailV where
  elem := 65
  slice := 54
  size := 18
  bytes := 160
  zero := .agg #[.int .i64 0, .int .i64 0, .int .i64 0, .int .i64 0, .int .i64 0, .int .i64 0, .int .i64 0, .int .i64 0, .int .i64 0, .slice none 0 0, .int .i64 0, .int .i64 0, .int .i64 0, .int .i64 0, .int .i64 0, .int .i64 0, .int .i64 0, .int .i64 0]
  enc := mailv
  len := mail_len
  one := mail_one
  pos := by omega
  und := Try.underlying54
  info := by kernel_rfl
  zs := rfl
  few := by omega
theorem mail_info : (Try.prog.info? 65).map (·.size) = some 18 := by kernel_rfl
/-- A slice of mail: each piece, and its entries. -/
def Mails (w : World) (B : Nat) (A : Option Addr) (l : List MailV) : Prop := Gr.Sl mailE w B A l ∧ ∀ x ∈ l, LogAt w B x.es x.m.ents
section
variable {w w' : World} {B B' : Nat} {A : Option Addr} {l : List MailV}
theorem Mails.below (h : Mails w B A l) (hb : Below B w w') : Mails w' B A l := ⟨h.1.below hb, fun x hx => (h.2 x hx).below hb⟩
theorem Mails.more (h : Mails w B A l) (hB : B ≤ B') : Mails w B' A l := ⟨h.1.more hB, fun x hx => (h.2 x hx).more hB⟩
theorem Mails.keep (h : Mails w w.heap.size A l) (hb : Below w.heap.size w w') : Mails w' w'.heap.size A l := (h.below hb).more hb.size
theorem Mails.nil : Mails w B A [] := ⟨Gr.Sl.nil, by simp⟩
/-- The k-th piece of mail. -/
theorem Mails.at_ (h : Mails w B A l) {k : Nat} (hk : k < l.length) : ∃ b off x, A = some ⟨b, off, none⟩ ∧ Hid (l[k]? = some x) ∧ b < B ∧ (∀ w', Below B w w' → ∀ j, j < 18 → w'.cell? ⟨b, off + k * 18 + j, none⟩ = (mailv x)[j]?) ∧ Hid (LogAt w B x.es x.m.ents) := by
  obtain ⟨b, off, e, ha, he, hb, hc⟩ := h.1.at_ hk
  exact ⟨b, off, e, ha, he, hb, fun w' hw j hj => hc w' hw j hj, Lib.hid (h.2 e (List.mem_of_getElem? he.out))⟩
end
end Go.Proofs.Ytbicefilfhcgoaa

set_option linter.unusedSimpArgs false
set_option linter.unusedVariables false
set_option maxRecDepth 100000
namespace Go.Proofs.Ytbicefilfhcgoaa
open Go Go.RowKit Go.Sq Go.Wd Go.Arch

/-- What Add leaves. -/
def AddPost (b : BegS) (S : Slots) (g B : Nat) (m : MailS) (w : World) (e : Ending) (w' : World) : Prop :=
  e = .returned (.bool (decide (addOk b S m))) ∧ BalAt w' B g b (addS b S m) ∧ Kept w w' (some g) none

/-- Both blocks. -/
def AddW (w w' : World) (g : Nat) (b : BegS) (S : Slots) (sl : Sls) (x : MailV) : Prop := Below w.heap.size w w' ∧ Blk w' w.heap.size 65 (mailv x) ∧ Blk w' g 85 (balv b S sl)
theorem AddW.cells {w w' : World} {g : Nat} {b : BegS} {S : Slots} {sl : Sls} {x : MailV} (h : AddW w w' g b S sl x) :
    (w'.cell? ⟨w.heap.size, 0, none⟩ = some (.int .i64 x.m.kind) ∧ w'.cell? ⟨w.heap.size, 1, none⟩ = some (.int .i64 x.m.from_) ∧ w'.cell? ⟨w.heap.size, 2, none⟩ = some (.int .i64 x.m.to) ∧ w'.cell? ⟨w.heap.size, 3, none⟩ = some (.int .i64 x.m.stream) ∧
     w'.cell? ⟨w.heap.size, 4, none⟩ = some (.int .i64 x.m.epoch) ∧ w'.cell? ⟨w.heap.size, 8, none⟩ = some (.int .i64 x.m.stamp)) ∧
    (w'.cell? ⟨g, 0, none⟩ = some (.int .i64 b.stream) ∧ w'.cell? ⟨g, 1, none⟩ = some (.int .i64 b.epoch) ∧ w'.cell? ⟨g, 2, none⟩ = some (.int .i64 b.site) ∧ w'.cell? ⟨g, 3, none⟩ = some (.int .i64 b.n) ∧ w'.cell? ⟨g, 4, none⟩ = some (.int .i64 b.stamp)) ∧
    ∀ k, k < 7 → w'.cell? ⟨g, 5 + k, none⟩ = some (.bool (S k).isSome) := by
  obtain ⟨_, h1, h2⟩ := h
  refine ⟨⟨h1.cell 0, h1.cell 1, h1.cell 2, h1.cell 3, h1.cell 4, h1.cell 8⟩, ⟨h2.cell 0, h2.cell 1, h2.cell 2, h2.cell 3, h2.cell 4⟩, fun k hk => ?_⟩
  rw [h2.cell, balv_had b S sl hk]

theorem add_no {b : BegS} {S : Slots} {g B : Nat} {m : MailS} {w w' : World} (h : ¬ addOk b S m) (hb : BalAt w' B g b S) (hk : Kept w w' (some g) none) : AddPost b S g B m w (.returned (.bool false)) w' := by
  refine ⟨ret_bool (by rw [decide_eq_false h]), ?_, hk⟩
  unfold addS
  rw [if_neg h]
  exact hb

set_option maxHeartbeats 8000000 in
theorem add_any (B g : Nat) (b : BegS) (S : Slots) (x : MailV) (w : World) (H : BalAt w B g b S) (hB : B ≤ w.heap.size) (hn : sitesE b.n = true) (hl : LogAt w w.heap.size x.es x.m.ents) (h2 : x.m.ents.length ≤ 2000) :
    Calls Try.prog 31 #[.pointer (some ⟨g, 0, none⟩), .agg (mailv x).toArray] w fun e w' => AddPost b S g B x.m w e w' := by
  obtain ⟨sl, hb, hr⟩ := H
  have hz : Below w.heap.size w (w.alloc (.cells (mailv x).toArray 65)) := (Below.refl _ _).alloc (Nat.le_refl _) _
  have hA : AddW w (w.alloc (.cells (mailv x).toArray 65)) g b S sl x := ⟨hz, Blk.new w _ _, hb.keep hz⟩
  have hn0 : (b.n == 0) = false := by
    rw [beq_eq_false_iff_ne]
    rcases sites_cases hn with e | e | e | e | e | e <;> omega
  have HH := Lib.hid (And.intro hA (And.intro hr (And.intro hl hn)))
  have hg := hb.lt
  clear hA hr hl hz hb
  unfold sitesE at hn
  simp only [decide_eq_true_eq] at hn
  by_cases hp : addPre b S x.m
  case pos =>
    have HP := Lib.hid hp
    obtain ⟨p1, p2, p3, p4, p5, p6, p7, p8⟩ := hp
    obtain ⟨K, hK⟩ := Int.eq_ofNat_of_zero_le p5
    have hK7 : K < 7 := by omega
    have e1 : (x.m.kind != 2) = false := by simpa using p1
    have e2 : (x.m.stream != b.stream) = false := by simpa using p2
    have e3 : (x.m.epoch != b.epoch) = false := by simpa using p3
    have e4 : (x.m.to != b.site) = false := by simpa using p4
    have e8 : (x.m.stamp != b.stamp) = false := by simpa using p8
    have e5 : ¬ (K : Int) < 0 := by omega
    have e6 : ¬ b.n ≤ (K : Int) := by omega
    have e7 : (0 : Int) ≤ (K : Int) := by omega
    have e5' : decide ((K : Int) < 0) = false := decide_eq_false e5
    have e6' : decide (b.n ≤ (K : Int)) = false := by simpa using e6
    have e9 : (K : Int) < 7 := by omega
    have hSK : (S K).isSome = false := by
      have : x.m.from_.toNat = K := by omega
      rw [this] at p7
      rw [p7]
      rfl
    have HK := Lib.hid (And.intro hK hSK)
    have FC : ∀ w', AddW w w' g b S sl x → (w'.cell? ⟨w.heap.size, 0, none⟩ = some (.int .i64 x.m.kind) ∧ w'.cell? ⟨w.heap.size, 1, none⟩ = some (.int .i64 (K : Int)) ∧ w'.cell? ⟨w.heap.size, 2, none⟩ = some (.int .i64 x.m.to) ∧ w'.cell? ⟨w.heap.size, 3, none⟩ = some (.int .i64 x.m.stream) ∧
        w'.cell? ⟨w.heap.size, 4, none⟩ = some (.int .i64 x.m.epoch) ∧ w'.cell? ⟨w.heap.size, 8, none⟩ = some (.int .i64 x.m.stamp)) ∧
        (w'.cell? ⟨g, 0, none⟩ = some (.int .i64 b.stream) ∧ w'.cell? ⟨g, 1, none⟩ = some (.int .i64 b.epoch) ∧ w'.cell? ⟨g, 2, none⟩ = some (.int .i64 b.site) ∧ w'.cell? ⟨g, 3, none⟩ = some (.int .i64 b.n) ∧ w'.cell? ⟨g, 4, none⟩ = some (.int .i64 b.stamp)) ∧
        w'.cell? ⟨g, 5 + K, none⟩ = some (.bool false) := fun w' h => by
      have hc := h.cells
      rw [HK.out.1] at hc
      have h7 := hc.2.2 K hK7
      rw [HK.out.2] at h7
      exact ⟨hc.1, hc.2.1, h7⟩
    clear p1 p2 p3 p4 p5 p6 p7 p8 hK hSK
    go_enter Try.func31, Try.ntmps31
    go_wp2_with fail
    refine wp_region_p ([(0, true), (1, true), (2, true), (3, true), (4, true), (5, true), (6, true), (7, true), (8, true), (9, true), (10, true), (11, true), (12, true), (13, true), (14, true), (15, true), (16, true), (17, true), (18, true), (19, true), (20, true), (21, true), (22, true), (23, true), (24, true), (25, true), (26, true), (27, true), (28, true), (29, true), (30, true), (31, true), (32, true), (33, true), (34, true), (35, true), (36, true), (37, true), (38, true), (39, true), (40, true), (41, true), (42, true), (43, true), (44, true), (45, true), (46, true), (47, true), (48, true), (49, true), (50, true), (51, true), (52, true), (53, true), (54, true), (55, true), (56, true), (57, true), (58, true), (59, true), (60, true), (61, true), (62, true), (63, true), (64, true), (65, true)]) (fun w' => AddW w w' g b S sl x) (by kernel_rfl) rfl (by kernel_rfl) (by kernel_rfl) (⟨HH.out.1.1.drew, HH.out.1.2.1.drew, HH.out.1.2.2.drew⟩) rfl ?_
    intro KP RP TP hKP hTP hTP'
    simp only [List.append_eq, List.cons_append, List.nil_append, pick, nth]
    go_wp2_with (first
      | (apply SeqP.skip; rfl; simp only [Act.put, List.setIfInBounds_toArray, List.set_cons_zero, List.set_cons_succ])
      | (apply SeqP.call; rfl; rfl; (intro w2 hw; have hw := hTP _ hw; ((obtain ⟨⟨q0, q1, q2, q3, q4, q5⟩, ⟨r0, r1, r2, r3, r4⟩, t0⟩ := FC _ hw)); go_simp; exact ⟨rfl, rfl⟩); (intro w2 hw; have hw := hTP _ hw; ((obtain ⟨⟨q0, q1, q2, q3, q4, q5⟩, ⟨r0, r1, r2, r3, r4⟩, t0⟩ := FC _ hw)); (first | (go_at_call 52; refine (none_any g b.n _ (FC _ hw).2.1.2.2.2.1).mono ?_; rintro e w' ⟨rfl, rfl⟩; exact ⟨rfl, rfl⟩))); simp only [Act.put, List.setIfInBounds_toArray, List.set_cons_zero, List.set_cons_succ])
      | (apply SeqP.pure; rfl; (intro w2 hw; have hw := hTP _ hw; ((obtain ⟨⟨q0, q1, q2, q3, q4, q5⟩, ⟨r0, r1, r2, r3, r4⟩, t0⟩ := FC _ hw)); go_simp; with_reducible rfl); simp only [Act.put, List.setIfInBounds_toArray, List.set_cons_zero, List.set_cons_succ])
      | (apply SeqP.split; rfl; rfl; all_goals (intro hc; simp only [hc]; try simp only [beq_iff_eq, decide_eq_true_eq, beq_eq_false_iff_ne, decide_eq_false_iff_not, bne_iff_ne, ne_eq, Bool.not_eq_true', Bool.not_eq_false', Int.not_le, Int.not_lt, bne_eq_false_iff_eq, Bool.or_eq_true, Bool.and_eq_true, Bool.or_eq_false_iff] at hc)))
    apply SeqP.nil
    refine hKP _ _ (hTP' _ (⟨HH.out.1.1.drew, HH.out.1.2.1.drew, HH.out.1.2.2.drew⟩)) ?_
    clear hKP hTP hTP'
    refine abs_at (fun W => AddW w W g b S sl x) ⟨HH.out.1.1.drew, HH.out.1.2.1.drew, HH.out.1.2.2.drew⟩ ?_
    intro w1 hA1
    have m4 : w1.cell? ⟨w.heap.size, 4, none⟩ = some (.int .i64 x.m.epoch) := hA1.2.1.cell 4
    have m5 : w1.cell? ⟨w.heap.size, 5, none⟩ = some (.int .i64 x.m.view) := hA1.2.1.cell 5
    have m9 : w1.cell? ⟨w.heap.size, 9, none⟩ = some (.slice x.es.1 x.es.2.1 x.es.2.2) := hA1.2.1.cell 9
    have m7 : w1.cell? ⟨w.heap.size, 7, none⟩ = some (.int .i64 x.m.len) := hA1.2.1.cell 7
    have lm := hA1.2.1.lt
    have HA := Lib.hid hA1
    clear hA1 FC e1 e2 e3 e4 e5 e6 e7 e8 e9 e5' e6'
    go_wp2_with fail
    have g1 := HA.out.1.alloc HA.out.1.size (.cells (rgv x.m.reg x.es).toArray 24)
    have R1 := Blk.new w1 24 (rgv x.m.reg x.es)
    have A1 : AddW w (w1.alloc (.cells (rgv x.m.reg x.es).toArray 24)) g b S sl x := ⟨g1, HA.out.2.1.alloc _, HA.out.2.2.alloc _⟩
    have HA1 := Lib.hid (And.intro A1 R1)
    clear A1 R1 g1 m4 m5 m9 m7
    refine wp_region_p ([(0, true), (1, false), (2, true), (3, true), (4, true), (5, true), (6, true), (7, true), (8, true), (9, true), (10, true), (11, true)]) (fun w' => AddW w w' g b S sl x ∧ Blk w' w1.heap.size 24 (rgv x.m.reg x.es)) (by kernel_rfl) rfl (by kernel_rfl) (by kernel_rfl) (⟨⟨HA1.out.1.1.drew, HA1.out.1.2.1.drew, HA1.out.1.2.2.drew⟩, HA1.out.2.drew⟩) rfl ?_
    intro KP RP TP hKP hTP hTP'
    simp only [pick, nth]
    go_wp2_with (first
      | (apply SeqP.skip; rfl; simp only [Act.put, List.setIfInBounds_toArray, List.set_cons_zero, List.set_cons_succ])
      | (apply SeqP.pure; rfl; (intro w2 hw; have hw := hTP _ hw; exact exec_load_blk 24 _ rfl _ rfl _ _ hw.2 _ Try.underlying24 rfl rg_info); simp only [Act.put, List.setIfInBounds_toArray, List.set_cons_zero, List.set_cons_succ])
      | (apply SeqP.call; rfl; rfl; (intro w2 hw; have hw := hTP _ hw; (skip); go_simp; exact ⟨rfl, rfl⟩); (intro w2 hw; have hw := hTP _ hw; (skip); (first | fail)); simp only [Act.put, List.setIfInBounds_toArray, List.set_cons_zero, List.set_cons_succ])
      | (apply SeqP.pure; rfl; (intro w2 hw; have hw := hTP _ hw; (skip); go_simp; with_reducible rfl); simp only [Act.put, List.setIfInBounds_toArray, List.set_cons_zero, List.set_cons_succ])
      | (apply SeqP.split; rfl; rfl; all_goals (intro hc; simp only [hc]; try simp only [beq_iff_eq, decide_eq_true_eq, beq_eq_false_iff_ne, decide_eq_false_iff_not, bne_iff_ne, ne_eq, Bool.not_eq_true', Bool.not_eq_false', Int.not_le, Int.not_lt, bne_eq_false_iff_eq, Bool.or_eq_true, Bool.and_eq_true, Bool.or_eq_false_iff] at hc)))
    apply SeqP.eff
    · rfl
    intro KE hKE
    go_wp2_with fail
    refine (check15_any x.m.reg x.es _ (HH.out.2.2.1.keep HA1.out.1.1.drew)).mono ?_
    rintro e w2 ⟨rfl, hb⟩
    have hd := HA1.out.1.1.drew
    have hw2 := below_trans hd hb hd.size
    have A2 : AddW w w2 g b S sl x := ⟨hw2, HA1.out.1.2.1.drew.keep hb, HA1.out.1.2.2.drew.keep hb⟩
    have R2 : Blk w2 w1.heap.size 24 (rgv x.m.reg x.es) := HA1.out.2.drew.keep hb
    refine hKE _ _ (hTP' _ ⟨A2, R2⟩) ?_
    clear hKE hb hd HA1 HA
    have FR : ∀ w', AddW w w' g b S sl x ∧ Blk w' w1.heap.size 24 (rgv x.m.reg x.es) → w'.cell? ⟨w1.heap.size, 1, none⟩ = some (.int .i64 x.m.view) ∧ w'.cell? ⟨g, 1, none⟩ = some (.int .i64 b.epoch) := fun w' h => ⟨h.2.cell 1, h.1.2.2.cell 1⟩
    have H2 := Lib.hid (And.intro hw2 (And.intro A2 R2))
    clear hw2 A2 R2
    have hcases : (mayR x.m.reg = true ∧ x.m.view < b.epoch) ∨ mayR x.m.reg = false ∨ (mayR x.m.reg = true ∧ b.epoch ≤ x.m.view) := by
      cases mayR x.m.reg with
      | false => exact .inr (.inl rfl)
      | true => exact (Int.lt_or_le x.m.view b.epoch).elim (fun h => .inl ⟨rfl, h⟩) (fun h => .inr (.inr ⟨rfl, h⟩))
    rcases hcases with ⟨hm, hv⟩ | hm | ⟨hm, hv⟩
    · have HOK : Hid (addOk b S x.m) := Lib.hid ⟨HP.out, hm, hv⟩
      have hv1 : ¬ b.epoch ≤ x.m.view := by omega
      have hv2 : decide (b.epoch ≤ x.m.view) = false := by simpa using hv1
      rw [hm]
      clear hm
      go_wp2_with (first
        | (apply SeqP.skip; rfl; simp only [Act.put, List.setIfInBounds_toArray, List.set_cons_zero, List.set_cons_succ])
        | (apply SeqP.call; rfl; rfl; (intro w2 hw; have hw := hTP _ hw; ((obtain ⟨q0, q1⟩ := FR _ hw)); go_simp; exact ⟨rfl, rfl⟩); (intro w2 hw; have hw := hTP _ hw; ((obtain ⟨q0, q1⟩ := FR _ hw)); (first | fail)); simp only [Act.put, List.setIfInBounds_toArray, List.set_cons_zero, List.set_cons_succ])
        | (apply SeqP.pure; rfl; (intro w2 hw; have hw := hTP _ hw; ((obtain ⟨q0, q1⟩ := FR _ hw)); go_simp; with_reducible rfl); simp only [Act.put, List.setIfInBounds_toArray, List.set_cons_zero, List.set_cons_succ])
        | (apply SeqP.split; rfl; rfl; all_goals (intro hc; simp only [hc]; try simp only [beq_iff_eq, decide_eq_true_eq, beq_eq_false_iff_ne, decide_eq_false_iff_not, bne_iff_ne, ne_eq, Bool.not_eq_true', Bool.not_eq_false', Int.not_le, Int.not_lt, bne_eq_false_iff_eq, Bool.or_eq_true, Bool.and_eq_true, Bool.or_eq_false_iff] at hc)))
      apply SeqP.nil
      refine hKP _ _ (hTP' _ (⟨H2.out.2.1, H2.out.2.2⟩)) ?_
      clear hKP hTP hTP'
      have c1 : w2.cell? ⟨w.heap.size, 1, none⟩ = some (.int .i64 (K : Int)) := by
        rw [← HK.out.1]
        exact H2.out.2.1.2.1.cell 1
      clear FR
      go_wp2_with ((with_reducible refine at_list ?_); first | refine wpList_load_blk rfl 24 _ rfl _ rfl _ _ _ (H2.out.2.2) Try.underlying24 rfl rg_info ?_)
      refine (put_any g K b S sl x.m.reg x.es w2 H2.out.2.1.2.2 hK7 (HH.out.2.2.1.keep H2.out.1) h2).mono ?_
      rintro e w3 ⟨rfl, s', hB3, hR3, hK3⟩
      have HF := Lib.hid (And.intro hB3 (And.intro hR3 hK3))
      clear hB3 hR3 hK3 c1
      go_wp2_with fail
      go_ret
      have hfr : x.m.from_.toNat = K := by have := HK.out.1; omega
      have hsz := H2.out.1.size
      refine ⟨ret_bool (by rw [decide_eq_true HOK.out]), ?_, (Kept.ofBelow H2.out.1 _ _).trans HF.out.2.2⟩
      unfold addS
      rw [if_pos HOK.out, hfr]
      refine ⟨_, HF.out.1, fun i hi => ?_⟩
      by_cases hik : i = K
      · subst hik
        rw [upS_at, regOf_at]
        exact HF.out.2.1.base (by omega)
      · rw [upS_far _ _ hik, regOf_far _ _ hik]
        exact HF.out.2.2.own ((HH.out.2.1 i hi).keep H2.out.1) (fun q e => by cases e; exact blk_not H2.out.2.1.2.2 (by decide)) (fun q e => by cases e)
    · have HNO : Hid (¬ addOk b S x.m) := Lib.hid (fun h => by rw [h.2.1] at hm; cases hm)
      rw [hm]
      clear hm
      go_wp2_with (first
        | (apply SeqP.skip; rfl; simp only [Act.put, List.setIfInBounds_toArray, List.set_cons_zero, List.set_cons_succ])
        | (apply SeqP.call; rfl; rfl; (intro w2 hw; have hw := hTP _ hw; ((obtain ⟨q0, q1⟩ := FR _ hw)); go_simp; exact ⟨rfl, rfl⟩); (intro w2 hw; have hw := hTP _ hw; ((obtain ⟨q0, q1⟩ := FR _ hw)); (first | fail)); simp only [Act.put, List.setIfInBounds_toArray, List.set_cons_zero, List.set_cons_succ])
        | (apply SeqP.pure; rfl; (intro w2 hw; have hw := hTP _ hw; ((obtain ⟨q0, q1⟩ := FR _ hw)); go_simp; with_reducible rfl); simp only [Act.put, List.setIfInBounds_toArray, List.set_cons_zero, List.set_cons_succ])
        | (apply SeqP.split; rfl; rfl; all_goals (intro hc; simp only [hc]; try simp only [beq_iff_eq, decide_eq_true_eq, beq_eq_false_iff_ne, decide_eq_false_iff_not, bne_iff_ne, ne_eq, Bool.not_eq_true', Bool.not_eq_false', Int.not_le, Int.not_lt, bne_eq_false_iff_eq, Bool.or_eq_true, Bool.and_eq_true, Bool.or_eq_false_iff] at hc)))
      apply SeqP.nil
      refine hKP _ _ (hTP' _ (⟨H2.out.2.1, H2.out.2.2⟩)) ?_
      clear hKP hTP hTP'
      clear FR
      go_wp2_with fail
      go_ret
      refine ⟨ret_bool (by rw [decide_eq_false HNO.out]), ?_, Kept.ofBelow H2.out.1 _ _⟩
      unfold addS
      rw [if_neg HNO.out]
      exact ⟨sl, H2.out.2.1.2.2, fun i hi => (HH.out.2.1 i hi).keep H2.out.1⟩
    · have HNO : Hid (¬ addOk b S x.m) := Lib.hid (fun h => by have := h.2.2; omega)
      have hv2 : decide (b.epoch ≤ x.m.view) = true := by simpa using hv
      rw [hm]
      clear hm
      go_wp2_with (first
        | (apply SeqP.skip; rfl; simp only [Act.put, List.setIfInBounds_toArray, List.set_cons_zero, List.set_cons_succ])
        | (apply SeqP.call; rfl; rfl; (intro w2 hw; have hw := hTP _ hw; ((obtain ⟨q0, q1⟩ := FR _ hw)); go_simp; exact ⟨rfl, rfl⟩); (intro w2 hw; have hw := hTP _ hw; ((obtain ⟨q0, q1⟩ := FR _ hw)); (first | fail)); simp only [Act.put, List.setIfInBounds_toArray, List.set_cons_zero, List.set_cons_succ])
        | (apply SeqP.pure; rfl; (intro w2 hw; have hw := hTP _ hw; ((obtain ⟨q0, q1⟩ := FR _ hw)); go_simp; with_reducible rfl); simp only [Act.put, List.setIfInBounds_toArray, List.set_cons_zero, List.set_cons_succ])
        | (apply SeqP.split; rfl; rfl; all_goals (intro hc; simp only [hc]; try simp only [beq_iff_eq, decide_eq_true_eq, beq_eq_false_iff_ne, decide_eq_false_iff_not, bne_iff_ne, ne_eq, Bool.not_eq_true', Bool.not_eq_false', Int.not_le, Int.not_lt, bne_eq_false_iff_eq, Bool.or_eq_true, Bool.and_eq_true, Bool.or_eq_false_iff] at hc)))
      apply SeqP.nil
      refine hKP _ _ (hTP' _ (⟨H2.out.2.1, H2.out.2.2⟩)) ?_
      clear hKP hTP hTP'
      clear FR
      go_wp2_with fail
      go_ret
      refine ⟨ret_bool (by rw [decide_eq_false HNO.out]), ?_, Kept.ofBelow H2.out.1 _ _⟩
      unfold addS
      rw [if_neg HNO.out]
      exact ⟨sl, H2.out.2.1.2.2, fun i hi => (HH.out.2.1 i hi).keep H2.out.1⟩
  case neg =>
    have HNO : Hid (¬ addOk b S x.m) := Lib.hid (fun h => hp h.1)
    have HP := Lib.hid hp
    clear hp
    have FC : ∀ w', AddW w w' g b S sl x → (w'.cell? ⟨w.heap.size, 0, none⟩ = some (.int .i64 x.m.kind) ∧ w'.cell? ⟨w.heap.size, 1, none⟩ = some (.int .i64 x.m.from_) ∧ w'.cell? ⟨w.heap.size, 2, none⟩ = some (.int .i64 x.m.to) ∧ w'.cell? ⟨w.heap.size, 3, none⟩ = some (.int .i64 x.m.stream) ∧
        w'.cell? ⟨w.heap.size, 4, none⟩ = some (.int .i64 x.m.epoch) ∧ w'.cell? ⟨w.heap.size, 8, none⟩ = some (.int .i64 x.m.stamp)) ∧
        (w'.cell? ⟨g, 0, none⟩ = some (.int .i64 b.stream) ∧ w'.cell? ⟨g, 1, none⟩ = some (.int .i64 b.epoch) ∧ w'.cell? ⟨g, 2, none⟩ = some (.int .i64 b.site) ∧ w'.cell? ⟨g, 3, none⟩ = some (.int .i64 b.n) ∧ w'.cell? ⟨g, 4, none⟩ = some (.int .i64 b.stamp)) := fun w' h => ⟨h.cells.1, h.cells.2.1⟩
    by_cases e1p : x.m.kind = 2
    case neg =>
      have e1 : (x.m.kind != 2) = true := by simpa using e1p
      clear e1p
      go_enter Try.func31, Try.ntmps31
      go_wp2_with fail
      refine wp_region_p ([(0, true), (1, true), (2, true), (3, true), (4, true), (5, true), (6, true), (7, true), (8, true), (9, true), (10, true), (11, true), (12, true), (13, true), (14, true), (15, true), (16, true), (17, true), (18, true), (19, true), (20, true), (21, true), (22, true), (23, true), (24, true), (25, true), (26, true), (27, true), (28, true), (29, true), (30, true), (31, true), (32, true), (33, true), (34, true), (35, true), (36, true), (37, true), (38, true), (39, true), (40, true), (41, true), (42, true), (43, true), (44, true), (45, true), (46, true), (47, true), (48, true), (49, true), (50, true), (51, true), (52, true), (53, true), (54, true), (55, true), (56, true), (57, true), (58, true), (59, true), (60, true), (61, true), (62, true), (63, true), (64, true), (65, true)]) (fun w' => AddW w w' g b S sl x) (by kernel_rfl) rfl (by kernel_rfl) (by kernel_rfl) (⟨HH.out.1.1.drew, HH.out.1.2.1.drew, HH.out.1.2.2.drew⟩) rfl ?_
      intro KP RP TP hKP hTP hTP'
      simp only [List.append_eq, List.cons_append, List.nil_append, pick, nth]
      go_wp2_with (first
        | (apply SeqP.skip; rfl; simp only [Act.put, List.setIfInBounds_toArray, List.set_cons_zero, List.set_cons_succ])
        | (apply SeqP.call; rfl; rfl; (intro w2 hw; have hw := hTP _ hw; ((obtain ⟨⟨q0, q1, q2, q3, q4, q5⟩, ⟨r0, r1, r2, r3, r4⟩⟩ := FC _ hw)); go_simp; exact ⟨rfl, rfl⟩); (intro w2 hw; have hw := hTP _ hw; ((obtain ⟨⟨q0, q1, q2, q3, q4, q5⟩, ⟨r0, r1, r2, r3, r4⟩⟩ := FC _ hw)); (first | (go_at_call 52; refine (none_any g b.n _ (FC _ hw).2.2.2.2.1).mono ?_; rintro e w' ⟨rfl, rfl⟩; exact ⟨rfl, rfl⟩))); simp only [Act.put, List.setIfInBounds_toArray, List.set_cons_zero, List.set_cons_succ])
        | (apply SeqP.pure; rfl; (intro w2 hw; have hw := hTP _ hw; ((obtain ⟨⟨q0, q1, q2, q3, q4, q5⟩, ⟨r0, r1, r2, r3, r4⟩⟩ := FC _ hw)); go_simp; with_reducible rfl); simp only [Act.put, List.setIfInBounds_toArray, List.set_cons_zero, List.set_cons_succ])
        | (apply SeqP.split; rfl; rfl; all_goals (intro hc; simp only [hc]; try simp only [beq_iff_eq, decide_eq_true_eq, beq_eq_false_iff_ne, decide_eq_false_iff_not, bne_iff_ne, ne_eq, Bool.not_eq_true', Bool.not_eq_false', Int.not_le, Int.not_lt, bne_eq_false_iff_eq, Bool.or_eq_true, Bool.and_eq_true, Bool.or_eq_false_iff] at hc)))
      apply SeqP.nil
      refine hKP _ _ (hTP' _ (⟨HH.out.1.1.drew, HH.out.1.2.1.drew, HH.out.1.2.2.drew⟩)) ?_
      clear hKP hTP hTP'
      go_wp2_with fail
      go_ret
      exact add_no HNO.out ⟨sl, HH.out.1.2.2.drew, fun i hi => (HH.out.2.1 i hi).keep HH.out.1.1.drew⟩ (Kept.ofBelow HH.out.1.1.drew _ _)
    have e1 : (x.m.kind != 2) = false := by simpa using e1p
    have He1 := Lib.hid e1p
    clear e1p
    by_cases e2p : x.m.stream = b.stream
    case neg =>
      have e2 : (x.m.stream != b.stream) = true := by simpa using e2p
      clear e2p
      go_enter Try.func31, Try.ntmps31
      go_wp2_with fail
      refine wp_region_p ([(0, true), (1, true), (2, true), (3, true), (4, true), (5, true), (6, true), (7, true), (8, true), (9, true), (10, true), (11, true), (12, true), (13, true), (14, true), (15, true), (16, true), (17, true), (18, true), (19, true), (20, true), (21, true), (22, true), (23, true), (24, true), (25, true), (26, true), (27, true), (28, true), (29, true), (30, true), (31, true), (32, true), (33, true), (34, true), (35, true), (36, true), (37, true), (38, true), (39, true), (40, true), (41, true), (42, true), (43, true), (44, true), (45, true), (46, true), (47, true), (48, true), (49, true), (50, true), (51, true), (52, true), (53, true), (54, true), (55, true), (56, true), (57, true), (58, true), (59, true), (60, true), (61, true), (62, true), (63, true), (64, true), (65, true)]) (fun w' => AddW w w' g b S sl x) (by kernel_rfl) rfl (by kernel_rfl) (by kernel_rfl) (⟨HH.out.1.1.drew, HH.out.1.2.1.drew, HH.out.1.2.2.drew⟩) rfl ?_
      intro KP RP TP hKP hTP hTP'
      simp only [List.append_eq, List.cons_append, List.nil_append, pick, nth]
      go_wp2_with (first
        | (apply SeqP.skip; rfl; simp only [Act.put, List.setIfInBounds_toArray, List.set_cons_zero, List.set_cons_succ])
        | (apply SeqP.call; rfl; rfl; (intro w2 hw; have hw := hTP _ hw; ((obtain ⟨⟨q0, q1, q2, q3, q4, q5⟩, ⟨r0, r1, r2, r3, r4⟩⟩ := FC _ hw)); go_simp; exact ⟨rfl, rfl⟩); (intro w2 hw; have hw := hTP _ hw; ((obtain ⟨⟨q0, q1, q2, q3, q4, q5⟩, ⟨r0, r1, r2, r3, r4⟩⟩ := FC _ hw)); (first | (go_at_call 52; refine (none_any g b.n _ (FC _ hw).2.2.2.2.1).mono ?_; rintro e w' ⟨rfl, rfl⟩; exact ⟨rfl, rfl⟩))); simp only [Act.put, List.setIfInBounds_toArray, List.set_cons_zero, List.set_cons_succ])
        | (apply SeqP.pure; rfl; (intro w2 hw; have hw := hTP _ hw; ((obtain ⟨⟨q0, q1, q2, q3, q4, q5⟩, ⟨r0, r1, r2, r3, r4⟩⟩ := FC _ hw)); go_simp; with_reducible rfl); simp only [Act.put, List.setIfInBounds_toArray, List.set_cons_zero, List.set_cons_succ])
        | (apply SeqP.split; rfl; rfl; all_goals (intro hc; simp only [hc]; try simp only [beq_iff_eq, decide_eq_true_eq, beq_eq_false_iff_ne, decide_eq_false_iff_not, bne_iff_ne, ne_eq, Bool.not_eq_true', Bool.not_eq_false', Int.not_le, Int.not_lt, bne_eq_false_iff_eq, Bool.or_eq_true, Bool.and_eq_true, Bool.or_eq_false_iff] at hc)))
      apply SeqP.nil
      refine hKP _ _ (hTP' _ (⟨HH.out.1.1.drew, HH.out.1.2.1.drew, HH.out.1.2.2.drew⟩)) ?_
      clear hKP hTP hTP'
      go_wp2_with fail
      go_ret
      exact add_no HNO.out ⟨sl, HH.out.1.2.2.drew, fun i hi => (HH.out.2.1 i hi).keep HH.out.1.1.drew⟩ (Kept.ofBelow HH.out.1.1.drew _ _)
    have e2 : (x.m.stream != b.stream) = false := by simpa using e2p
    have He2 := Lib.hid e2p
    clear e2p
    by_cases e3p : x.m.epoch = b.epoch
    case neg =>
      have e3 : (x.m.epoch != b.epoch) = true := by simpa using e3p
      clear e3p
      go_enter Try.func31, Try.ntmps31
      go_wp2_with fail
      refine wp_region_p ([(0, true), (1, true), (2, true), (3, true), (4, true), (5, true), (6, true), (7, true), (8, true), (9, true), (10, true), (11, true), (12, true), (13, true), (14, true), (15, true), (16, true), (17, true), (18, true), (19, true), (20, true), (21, true), (22, true), (23, true), (24, true), (25, true), (26, true), (27, true), (28, true), (29, true), (30, true), (31, true), (32, true), (33, true), (34, true), (35, true), (36, true), (37, true), (38, true), (39, true), (40, true), (41, true), (42, true), (43, true), (44, true), (45, true), (46, true), (47, true), (48, true), (49, true), (50, true), (51, true), (52, true), (53, true), (54, true), (55, true), (56, true), (57, true), (58, true), (59, true), (60, true), (61, true), (62, true), (63, true), (64, true), (65, true)]) (fun w' => AddW w w' g b S sl x) (by kernel_rfl) rfl (by kernel_rfl) (by kernel_rfl) (⟨HH.out.1.1.drew, HH.out.1.2.1.drew, HH.out.1.2.2.drew⟩) rfl ?_
      intro KP RP TP hKP hTP hTP'
      simp only [List.append_eq, List.cons_append, List.nil_append, pick, nth]
      go_wp2_with (first
        | (apply SeqP.skip; rfl; simp only [Act.put, List.setIfInBounds_toArray, List.set_cons_zero, List.set_cons_succ])
        | (apply SeqP.call; rfl; rfl; (intro w2 hw; have hw := hTP _ hw; ((obtain ⟨⟨q0, q1, q2, q3, q4, q5⟩, ⟨r0, r1, r2, r3, r4⟩⟩ := FC _ hw)); go_simp; exact ⟨rfl, rfl⟩); (intro w2 hw; have hw := hTP _ hw; ((obtain ⟨⟨q0, q1, q2, q3, q4, q5⟩, ⟨r0, r1, r2, r3, r4⟩⟩ := FC _ hw)); (first | (go_at_call 52; refine (none_any g b.n _ (FC _ hw).2.2.2.2.1).mono ?_; rintro e w' ⟨rfl, rfl⟩; exact ⟨rfl, rfl⟩))); simp only [Act.put, List.setIfInBounds_toArray, List.set_cons_zero, List.set_cons_succ])
        | (apply SeqP.pure; rfl; (intro w2 hw; have hw := hTP _ hw; ((obtain ⟨⟨q0, q1, q2, q3, q4, q5⟩, ⟨r0, r1, r2, r3, r4⟩⟩ := FC _ hw)); go_simp; with_reducible rfl); simp only [Act.put, List.setIfInBounds_toArray, List.set_cons_zero, List.set_cons_succ])
        | (apply SeqP.split; rfl; rfl; all_goals (intro hc; simp only [hc]; try simp only [beq_iff_eq, decide_eq_true_eq, beq_eq_false_iff_ne, decide_eq_false_iff_not, bne_iff_ne, ne_eq, Bool.not_eq_true', Bool.not_eq_false', Int.not_le, Int.not_lt, bne_eq_false_iff_eq, Bool.or_eq_true, Bool.and_eq_true, Bool.or_eq_false_iff] at hc)))
      apply SeqP.nil
      refine hKP _ _ (hTP' _ (⟨HH.out.1.1.drew, HH.out.1.2.1.drew, HH.out.1.2.2.drew⟩)) ?_
      clear hKP hTP hTP'
      go_wp2_with fail
      go_ret
      exact add_no HNO.out ⟨sl, HH.out.1.2.2.drew, fun i hi => (HH.out.2.1 i hi).keep HH.out.1.1.drew⟩ (Kept.ofBelow HH.out.1.1.drew _ _)
    have e3 : (x.m.epoch != b.epoch) = false := by simpa using e3p
    have He3 := Lib.hid e3p
    clear e3p
    by_cases e4p : x.m.to = b.site
    case neg =>
      have e4 : (x.m.to != b.site) = true := by simpa using e4p
      clear e4p
      go_enter Try.func31, Try.ntmps31
      go_wp2_with fail
      refine wp_region_p ([(0, true), (1, true), (2, true), (3, true), (4, true), (5, true), (6, true), (7, true), (8, true), (9, true), (10, true), (11, true), (12, true), (13, true), (14, true), (15, true), (16, true), (17, true), (18, true), (19, true), (20, true), (21, true), (22, true), (23, true), (24, true), (25, true), (26, true), (27, true), (28, true), (29, true), (30, true), (31, true), (32, true), (33, true), (34, true), (35, true), (36, true), (37, true), (38, true), (39, true), (40, true), (41, true), (42, true), (43, true), (44, true), (45, true), (46, true), (47, true), (48, true), (49, true), (50, true), (51, true), (52, true), (53, true), (54, true), (55, true), (56, true), (57, true), (58, true), (59, true), (60, true), (61, true), (62, true), (63, true), (64, true), (65, true)]) (fun w' => AddW w w' g b S sl x) (by kernel_rfl) rfl (by kernel_rfl) (by kernel_rfl) (⟨HH.out.1.1.drew, HH.out.1.2.1.drew, HH.out.1.2.2.drew⟩) rfl ?_
      intro KP RP TP hKP hTP hTP'
      simp only [List.append_eq, List.cons_append, List.nil_append, pick, nth]
      go_wp2_with (first
        | (apply SeqP.skip; rfl; simp only [Act.put, List.setIfInBounds_toArray, List.set_cons_zero, List.set_cons_succ])
        | (apply SeqP.call; rfl; rfl; (intro w2 hw; have hw := hTP _ hw; ((obtain ⟨⟨q0, q1, q2, q3, q4, q5⟩, ⟨r0, r1, r2, r3, r4⟩⟩ := FC _ hw)); go_simp; exact ⟨rfl, rfl⟩); (intro w2 hw; have hw := hTP _ hw; ((obtain ⟨⟨q0, q1, q2, q3, q4, q5⟩, ⟨r0, r1, r2, r3, r4⟩⟩ := FC _ hw)); (first | (go_at_call 52; refine (none_any g b.n _ (FC _ hw).2.2.2.2.1).mono ?_; rintro e w' ⟨rfl, rfl⟩; exact ⟨rfl, rfl⟩))); simp only [Act.put, List.setIfInBounds_toArray, List.set_cons_zero, List.set_cons_succ])
        | (apply SeqP.pure; rfl; (intro w2 hw; have hw := hTP _ hw; ((obtain ⟨⟨q0, q1, q2, q3, q4, q5⟩, ⟨r0, r1, r2, r3, r4⟩⟩ := FC _ hw)); go_simp; with_reducible rfl); simp only [Act.put, List.setIfInBounds_toArray, List.set_cons_zero, List.set_cons_succ])
        | (apply SeqP.split; rfl; rfl; all_goals (intro hc; simp only [hc]; try simp only [beq_iff_eq, decide_eq_true_eq, beq_eq_false_iff_ne, decide_eq_false_iff_not, bne_iff_ne, ne_eq, Bool.not_eq_true', Bool.not_eq_false', Int.not_le, Int.not_lt, bne_eq_false_iff_eq, Bool.or_eq_true, Bool.and_eq_true, Bool.or_eq_false_iff] at hc)))
      apply SeqP.nil
      refine hKP _ _ (hTP' _ (⟨HH.out.1.1.drew, HH.out.1.2.1.drew, HH.out.1.2.2.drew⟩)) ?_
      clear hKP hTP hTP'
      go_wp2_with fail
      go_ret
      exact add_no HNO.out ⟨sl, HH.out.1.2.2.drew, fun i hi => (HH.out.2.1 i hi).keep HH.out.1.1.drew⟩ (Kept.ofBelow HH.out.1.1.drew _ _)
    have e4 : (x.m.to != b.site) = false := by simpa using e4p
    have He4 := Lib.hid e4p
    clear e4p
    by_cases e5 : x.m.from_ < 0
    case pos =>
      have e5' : decide (x.m.from_ < 0) = true := by simpa using e5
      go_enter Try.func31, Try.ntmps31
      go_wp2_with fail
      refine wp_region_p ([(0, true), (1, true), (2, true), (3, true), (4, true), (5, true), (6, true), (7, true), (8, true), (9, true), (10, true), (11, true), (12, true), (13, true), (14, true), (15, true), (16, true), (17, true), (18, true), (19, true), (20, true), (21, true), (22, true), (23, true), (24, true), (25, true), (26, true), (27, true), (28, true), (29, true), (30, true), (31, true), (32, true), (33, true), (34, true), (35, true), (36, true), (37, true), (38, true), (39, true), (40, true), (41, true), (42, true), (43, true), (44, true), (45, true), (46, true), (47, true), (48, true), (49, true), (50, true), (51, true), (52, true), (53, true), (54, true), (55, true), (56, true), (57, true), (58, true), (59, true), (60, true), (61, true), (62, true), (63, true), (64, true), (65, true)]) (fun w' => AddW w w' g b S sl x) (by kernel_rfl) rfl (by kernel_rfl) (by kernel_rfl) (⟨HH.out.1.1.drew, HH.out.1.2.1.drew, HH.out.1.2.2.drew⟩) rfl ?_
      intro KP RP TP hKP hTP hTP'
      simp only [List.append_eq, List.cons_append, List.nil_append, pick, nth]
      go_wp2_with (first
        | (apply SeqP.skip; rfl; simp only [Act.put, List.setIfInBounds_toArray, List.set_cons_zero, List.set_cons_succ])
        | (apply SeqP.call; rfl; rfl; (intro w2 hw; have hw := hTP _ hw; ((obtain ⟨⟨q0, q1, q2, q3, q4, q5⟩, ⟨r0, r1, r2, r3, r4⟩⟩ := FC _ hw)); go_simp; exact ⟨rfl, rfl⟩); (intro w2 hw; have hw := hTP _ hw; ((obtain ⟨⟨q0, q1, q2, q3, q4, q5⟩, ⟨r0, r1, r2, r3, r4⟩⟩ := FC _ hw)); (first | (go_at_call 52; refine (none_any g b.n _ (FC _ hw).2.2.2.2.1).mono ?_; rintro e w' ⟨rfl, rfl⟩; exact ⟨rfl, rfl⟩))); simp only [Act.put, List.setIfInBounds_toArray, List.set_cons_zero, List.set_cons_succ])
        | (apply SeqP.pure; rfl; (intro w2 hw; have hw := hTP _ hw; ((obtain ⟨⟨q0, q1, q2, q3, q4, q5⟩, ⟨r0, r1, r2, r3, r4⟩⟩ := FC _ hw)); go_simp; with_reducible rfl); simp only [Act.put, List.setIfInBounds_toArray, List.set_cons_zero, List.set_cons_succ])
        | (apply SeqP.split; rfl; rfl; all_goals (intro hc; simp only [hc]; try simp only [beq_iff_eq, decide_eq_true_eq, beq_eq_false_iff_ne, decide_eq_false_iff_not, bne_iff_ne, ne_eq, Bool.not_eq_true', Bool.not_eq_false', Int.not_le, Int.not_lt, bne_eq_false_iff_eq, Bool.or_eq_true, Bool.and_eq_true, Bool.or_eq_false_iff] at hc)))
      apply SeqP.nil
      refine hKP _ _ (hTP' _ (⟨HH.out.1.1.drew, HH.out.1.2.1.drew, HH.out.1.2.2.drew⟩)) ?_
      clear hKP hTP hTP'
      go_wp2_with fail
      go_ret
      exact add_no HNO.out ⟨sl, HH.out.1.2.2.drew, fun i hi => (HH.out.2.1 i hi).keep HH.out.1.1.drew⟩ (Kept.ofBelow HH.out.1.1.drew _ _)
    have e5' : decide (x.m.from_ < 0) = false := by simpa using e5
    by_cases e6 : b.n ≤ x.m.from_
    case pos =>
      have e6' : decide (b.n ≤ x.m.from_) = true := by simpa using e6
      go_enter Try.func31, Try.ntmps31
      go_wp2_with fail
      refine wp_region_p ([(0, true), (1, true), (2, true), (3, true), (4, true), (5, true), (6, true), (7, true), (8, true), (9, true), (10, true), (11, true), (12, true), (13, true), (14, true), (15, true), (16, true), (17, true), (18, true), (19, true), (20, true), (21, true), (22, true), (23, true), (24, true), (25, true), (26, true), (27, true), (28, true), (29, true), (30, true), (31, true), (32, true), (33, true), (34, true), (35, true), (36, true), (37, true), (38, true), (39, true), (40, true), (41, true), (42, true), (43, true), (44, true), (45, true), (46, true), (47, true), (48, true), (49, true), (50, true), (51, true), (52, true), (53, true), (54, true), (55, true), (56, true), (57, true), (58, true), (59, true), (60, true), (61, true), (62, true), (63, true), (64, true), (65, true)]) (fun w' => AddW w w' g b S sl x) (by kernel_rfl) rfl (by kernel_rfl) (by kernel_rfl) (⟨HH.out.1.1.drew, HH.out.1.2.1.drew, HH.out.1.2.2.drew⟩) rfl ?_
      intro KP RP TP hKP hTP hTP'
      simp only [List.append_eq, List.cons_append, List.nil_append, pick, nth]
      go_wp2_with (first
        | (apply SeqP.skip; rfl; simp only [Act.put, List.setIfInBounds_toArray, List.set_cons_zero, List.set_cons_succ])
        | (apply SeqP.call; rfl; rfl; (intro w2 hw; have hw := hTP _ hw; ((obtain ⟨⟨q0, q1, q2, q3, q4, q5⟩, ⟨r0, r1, r2, r3, r4⟩⟩ := FC _ hw)); go_simp; exact ⟨rfl, rfl⟩); (intro w2 hw; have hw := hTP _ hw; ((obtain ⟨⟨q0, q1, q2, q3, q4, q5⟩, ⟨r0, r1, r2, r3, r4⟩⟩ := FC _ hw)); (first | (go_at_call 52; refine (none_any g b.n _ (FC _ hw).2.2.2.2.1).mono ?_; rintro e w' ⟨rfl, rfl⟩; exact ⟨rfl, rfl⟩))); simp only [Act.put, List.setIfInBounds_toArray, List.set_cons_zero, List.set_cons_succ])
        | (apply SeqP.pure; rfl; (intro w2 hw; have hw := hTP _ hw; ((obtain ⟨⟨q0, q1, q2, q3, q4, q5⟩, ⟨r0, r1, r2, r3, r4⟩⟩ := FC _ hw)); go_simp; with_reducible rfl); simp only [Act.put, List.setIfInBounds_toArray, List.set_cons_zero, List.set_cons_succ])
        | (apply SeqP.split; rfl; rfl; all_goals (intro hc; simp only [hc]; try simp only [beq_iff_eq, decide_eq_true_eq, beq_eq_false_iff_ne, decide_eq_false_iff_not, bne_iff_ne, ne_eq, Bool.not_eq_true', Bool.not_eq_false', Int.not_le, Int.not_lt, bne_eq_false_iff_eq, Bool.or_eq_true, Bool.and_eq_true, Bool.or_eq_false_iff] at hc)))
      apply SeqP.nil
      refine hKP _ _ (hTP' _ (⟨HH.out.1.1.drew, HH.out.1.2.1.drew, HH.out.1.2.2.drew⟩)) ?_
      clear hKP hTP hTP'
      go_wp2_with fail
      go_ret
      exact add_no HNO.out ⟨sl, HH.out.1.2.2.drew, fun i hi => (HH.out.2.1 i hi).keep HH.out.1.1.drew⟩ (Kept.ofBelow HH.out.1.1.drew _ _)
    obtain ⟨K, hK⟩ := Int.eq_ofNat_of_zero_le (show 0 ≤ x.m.from_ by omega)
    have hfr : x.m.from_.toNat = K := by omega
    rw [hK] at e5 e6 e5' FC
    have e6' : decide (b.n ≤ (K : Int)) = false := by simpa using e6
    have hK7 : K < 7 := by omega
    have e7 : (0 : Int) ≤ (K : Int) := by omega
    have e9 : (K : Int) < 7 := by omega
    have HK := Lib.hid (And.intro hK hfr)
    clear hK hfr
    cases hS : (S K).isSome with
    | true =>
      have FD : ∀ w', AddW w w' g b S sl x → (w'.cell? ⟨w.heap.size, 0, none⟩ = some (.int .i64 x.m.kind) ∧ w'.cell? ⟨w.heap.size, 1, none⟩ = some (.int .i64 (K : Int)) ∧ w'.cell? ⟨w.heap.size, 2, none⟩ = some (.int .i64 x.m.to) ∧ w'.cell? ⟨w.heap.size, 3, none⟩ = some (.int .i64 x.m.stream) ∧
          w'.cell? ⟨w.heap.size, 4, none⟩ = some (.int .i64 x.m.epoch) ∧ w'.cell? ⟨w.heap.size, 8, none⟩ = some (.int .i64 x.m.stamp)) ∧
          (w'.cell? ⟨g, 0, none⟩ = some (.int .i64 b.stream) ∧ w'.cell? ⟨g, 1, none⟩ = some (.int .i64 b.epoch) ∧ w'.cell? ⟨g, 2, none⟩ = some (.int .i64 b.site) ∧ w'.cell? ⟨g, 3, none⟩ = some (.int .i64 b.n) ∧ w'.cell? ⟨g, 4, none⟩ = some (.int .i64 b.stamp)) ∧ w'.cell? ⟨g, 5 + K, none⟩ = some (.bool true) := fun w' h => ⟨(FC w' h).1, (FC w' h).2, by have h7 := h.cells.2.2 K hK7; rw [hS] at h7; exact h7⟩
      clear FC hS
      go_enter Try.func31, Try.ntmps31
      go_wp2_with fail
      refine wp_region_p ([(0, true), (1, true), (2, true), (3, true), (4, true), (5, true), (6, true), (7, true), (8, true), (9, true), (10, true), (11, true), (12, true), (13, true), (14, true), (15, true), (16, true), (17, true), (18, true), (19, true), (20, true), (21, true), (22, true), (23, true), (24, true), (25, true), (26, true), (27, true), (28, true), (29, true), (30, true), (31, true), (32, true), (33, true), (34, true), (35, true), (36, true), (37, true), (38, true), (39, true), (40, true), (41, true), (42, true), (43, true), (44, true), (45, true), (46, true), (47, true), (48, true), (49, true), (50, true), (51, true), (52, true), (53, true), (54, true), (55, true), (56, true), (57, true), (58, true), (59, true), (60, true), (61, true), (62, true), (63, true), (64, true), (65, true)]) (fun w' => AddW w w' g b S sl x) (by kernel_rfl) rfl (by kernel_rfl) (by kernel_rfl) (⟨HH.out.1.1.drew, HH.out.1.2.1.drew, HH.out.1.2.2.drew⟩) rfl ?_
      intro KP RP TP hKP hTP hTP'
      simp only [List.append_eq, List.cons_append, List.nil_append, pick, nth]
      go_wp2_with (first
        | (apply SeqP.skip; rfl; simp only [Act.put, List.setIfInBounds_toArray, List.set_cons_zero, List.set_cons_succ])
        | (apply SeqP.call; rfl; rfl; (intro w2 hw; have hw := hTP _ hw; ((obtain ⟨⟨q0, q1, q2, q3, q4, q5⟩, ⟨r0, r1, r2, r3, r4⟩, t0⟩ := FD _ hw)); go_simp; exact ⟨rfl, rfl⟩); (intro w2 hw; have hw := hTP _ hw; ((obtain ⟨⟨q0, q1, q2, q3, q4, q5⟩, ⟨r0, r1, r2, r3, r4⟩, t0⟩ := FD _ hw)); (first | (go_at_call 52; refine (none_any g b.n _ (FD _ hw).2.1.2.2.2.1).mono ?_; rintro e w' ⟨rfl, rfl⟩; exact ⟨rfl, rfl⟩))); simp only [Act.put, List.setIfInBounds_toArray, List.set_cons_zero, List.set_cons_succ])
        | (apply SeqP.pure; rfl; (intro w2 hw; have hw := hTP _ hw; ((obtain ⟨⟨q0, q1, q2, q3, q4, q5⟩, ⟨r0, r1, r2, r3, r4⟩, t0⟩ := FD _ hw)); go_simp; with_reducible rfl); simp only [Act.put, List.setIfInBounds_toArray, List.set_cons_zero, List.set_cons_succ])
        | (apply SeqP.split; rfl; rfl; all_goals (intro hc; simp only [hc]; try simp only [beq_iff_eq, decide_eq_true_eq, beq_eq_false_iff_ne, decide_eq_false_iff_not, bne_iff_ne, ne_eq, Bool.not_eq_true', Bool.not_eq_false', Int.not_le, Int.not_lt, bne_eq_false_iff_eq, Bool.or_eq_true, Bool.and_eq_true, Bool.or_eq_false_iff] at hc)))
      apply SeqP.nil
      refine hKP _ _ (hTP' _ (⟨HH.out.1.1.drew, HH.out.1.2.1.drew, HH.out.1.2.2.drew⟩)) ?_
      clear hKP hTP hTP'
      go_wp2_with fail
      go_ret
      exact add_no HNO.out ⟨sl, HH.out.1.2.2.drew, fun i hi => (HH.out.2.1 i hi).keep HH.out.1.1.drew⟩ (Kept.ofBelow HH.out.1.1.drew _ _)
    | false =>
      have FD : ∀ w', AddW w w' g b S sl x → (w'.cell? ⟨w.heap.size, 0, none⟩ = some (.int .i64 x.m.kind) ∧ w'.cell? ⟨w.heap.size, 1, none⟩ = some (.int .i64 (K : Int)) ∧ w'.cell? ⟨w.heap.size, 2, none⟩ = some (.int .i64 x.m.to) ∧ w'.cell? ⟨w.heap.size, 3, none⟩ = some (.int .i64 x.m.stream) ∧
          w'.cell? ⟨w.heap.size, 4, none⟩ = some (.int .i64 x.m.epoch) ∧ w'.cell? ⟨w.heap.size, 8, none⟩ = some (.int .i64 x.m.stamp)) ∧
          (w'.cell? ⟨g, 0, none⟩ = some (.int .i64 b.stream) ∧ w'.cell? ⟨g, 1, none⟩ = some (.int .i64 b.epoch) ∧ w'.cell? ⟨g, 2, none⟩ = some (.int .i64 b.site) ∧ w'.cell? ⟨g, 3, none⟩ = some (.int .i64 b.n) ∧ w'.cell? ⟨g, 4, none⟩ = some (.int .i64 b.stamp)) ∧ w'.cell? ⟨g, 5 + K, none⟩ = some (.bool false) := fun w' h => ⟨(FC w' h).1, (FC w' h).2, by have h7 := h.cells.2.2 K hK7; rw [hS] at h7; exact h7⟩
      have e8 : (x.m.stamp != b.stamp) = true := by
        by_cases h : x.m.stamp = b.stamp
        · exact absurd ⟨He1.out, He2.out, He3.out, He4.out, by have := HK.out.1; omega, by have := HK.out.1; omega, by rw [HK.out.2]; simpa using hS, h⟩ HP.out
        · simpa using h
      clear FC hS
      go_enter Try.func31, Try.ntmps31
      go_wp2_with fail
      refine wp_region_p ([(0, true), (1, true), (2, true), (3, true), (4, true), (5, true), (6, true), (7, true), (8, true), (9, true), (10, true), (11, true), (12, true), (13, true), (14, true), (15, true), (16, true), (17, true), (18, true), (19, true), (20, true), (21, true), (22, true), (23, true), (24, true), (25, true), (26, true), (27, true), (28, true), (29, true), (30, true), (31, true), (32, true), (33, true), (34, true), (35, true), (36, true), (37, true), (38, true), (39, true), (40, true), (41, true), (42, true), (43, true), (44, true), (45, true), (46, true), (47, true), (48, true), (49, true), (50, true), (51, true), (52, true), (53, true), (54, true), (55, true), (56, true), (57, true), (58, true), (59, true), (60, true), (61, true), (62, true), (63, true), (64, true), (65, true)]) (fun w' => AddW w w' g b S sl x) (by kernel_rfl) rfl (by kernel_rfl) (by kernel_rfl) (⟨HH.out.1.1.drew, HH.out.1.2.1.drew, HH.out.1.2.2.drew⟩) rfl ?_
      intro KP RP TP hKP hTP hTP'
      simp only [List.append_eq, List.cons_append, List.nil_append, pick, nth]
      go_wp2_with (first
        | (apply SeqP.skip; rfl; simp only [Act.put, List.setIfInBounds_toArray, List.set_cons_zero, List.set_cons_succ])
        | (apply SeqP.call; rfl; rfl; (intro w2 hw; have hw := hTP _ hw; ((obtain ⟨⟨q0, q1, q2, q3, q4, q5⟩, ⟨r0, r1, r2, r3, r4⟩, t0⟩ := FD _ hw)); go_simp; exact ⟨rfl, rfl⟩); (intro w2 hw; have hw := hTP _ hw; ((obtain ⟨⟨q0, q1, q2, q3, q4, q5⟩, ⟨r0, r1, r2, r3, r4⟩, t0⟩ := FD _ hw)); (first | (go_at_call 52; refine (none_any g b.n _ (FD _ hw).2.1.2.2.2.1).mono ?_; rintro e w' ⟨rfl, rfl⟩; exact ⟨rfl, rfl⟩))); simp only [Act.put, List.setIfInBounds_toArray, List.set_cons_zero, List.set_cons_succ])
        | (apply SeqP.pure; rfl; (intro w2 hw; have hw := hTP _ hw; ((obtain ⟨⟨q0, q1, q2, q3, q4, q5⟩, ⟨r0, r1, r2, r3, r4⟩, t0⟩ := FD _ hw)); go_simp; with_reducible rfl); simp only [Act.put, List.setIfInBounds_toArray, List.set_cons_zero, List.set_cons_succ])
        | (apply SeqP.split; rfl; rfl; all_goals (intro hc; simp only [hc]; try simp only [beq_iff_eq, decide_eq_true_eq, beq_eq_false_iff_ne, decide_eq_false_iff_not, bne_iff_ne, ne_eq, Bool.not_eq_true', Bool.not_eq_false', Int.not_le, Int.not_lt, bne_eq_false_iff_eq, Bool.or_eq_true, Bool.and_eq_true, Bool.or_eq_false_iff] at hc)))
      apply SeqP.nil
      refine hKP _ _ (hTP' _ (⟨HH.out.1.1.drew, HH.out.1.2.1.drew, HH.out.1.2.2.drew⟩)) ?_
      clear hKP hTP hTP'
      go_wp2_with fail
      go_ret
      exact add_no HNO.out ⟨sl, HH.out.1.2.2.drew, fun i hi => (HH.out.2.1 i hi).keep HH.out.1.1.drew⟩ (Kept.ofBelow HH.out.1.1.drew _ _)
end Go.Proofs.Ytbicefilfhcgoaa

set_option linter.unusedSimpArgs false
set_option linter.unusedVariables false
set_option maxRecDepth 100000
namespace Go.Proofs.Ytbicefilfhcgoaa

def keyM (m : MailS) : Nat := m.from_.toNat
/-- What does not hang on who has promised. -/
def stOk (b : BegS) (m : MailS) : Prop := m.kind = 2 ∧ m.stream = b.stream ∧ m.epoch = b.epoch ∧ m.to = b.site ∧ 0 ≤ m.from_ ∧ m.from_ < b.n ∧ m.stamp = b.stamp ∧ mayR m.reg = true ∧ m.view < b.epoch
theorem addOk_iff {b : BegS} {S : Slots} {m : MailS} : addOk b S m ↔ stOk b m ∧ S (keyM m) = none := by
  unfold addOk addPre stOk keyM
  constructor
  · rintro ⟨⟨a, b, c, d, e, f, g, h⟩, i, j⟩
    exact ⟨⟨a, b, c, d, e, f, h, i, j⟩, g⟩
  · rintro ⟨⟨a, b, c, d, e, f, h, i, j⟩, g⟩
    exact ⟨⟨a, b, c, d, e, f, g, h⟩, i, j⟩
theorem addOk_n {b : BegS} {S : Slots} {m : MailS} (h : addOk b S m) : 0 ≤ m.from_ ∧ m.from_ < b.n := ⟨h.1.2.2.2.2.1, h.1.2.2.2.2.2.1⟩
theorem addS_yes {b : BegS} {S : Slots} {m : MailS} (h : addOk b S m) : addS b S m = put7 S (keyM m) m.reg := if_pos h
theorem addS_no {b : BegS} {S : Slots} {m : MailS} (h : ¬ addOk b S m) : addS b S m = S := if_neg h
theorem addS_twice {b : BegS} {S : Slots} {m : MailS} (h : addOk b S m) : ¬ addOk b (addS b S m) m := fun h2 => by
  have := (addOk_iff.1 h2).2
  rw [addS_yes h, put7_at] at this
  cases this
/-- These have come, on top of what was there. -/
def Puts (S0 : Slots) (cs : List MailS) (S : Slots) : Prop := (∀ m ∈ cs, S (keyM m) = some m.reg) ∧ ∀ k, (∀ m ∈ cs, keyM m ≠ k) → S k = S0 k
theorem puts_nil (S0 : Slots) : Puts S0 [] S0 := ⟨by simp, fun _ _ => rfl⟩
theorem puts_put {S0 S : Slots} {cs : List MailS} {m : MailS} (h : Puts S0 cs S) (hn : S (keyM m) = none) : Puts S0 (cs ++ [m]) (put7 S (keyM m) m.reg) := by
  refine ⟨fun x hx => ?_, fun k hk => ?_⟩
  · rcases List.mem_append.1 hx with hx | hx
    · have h1 := h.1 x hx
      rw [put7_far]
      · exact h1
      · intro e
        rw [e, hn] at h1
        cases h1
    · obtain rfl : x = m := by simpa using hx
      exact put7_at _ _ _
  · have h1 : k ≠ keyM m := fun e => hk m (by simp) e.symm
    rw [put7_far S _ h1]
    exact h.2 k (fun x hx => hk x (by simp [hx]))
theorem puts_one {S0 S T : Slots} {cs ds : List MailS} (h : Puts S0 cs S) (h' : Puts S0 ds T) (he : ∀ m, m ∈ cs ↔ m ∈ ds) : S = T := funext fun k => by
  by_cases hk : ∃ m ∈ cs, keyM m = k
  · obtain ⟨m, hm, rfl⟩ := hk
    rw [h.1 m hm, h'.1 m ((he m).1 hm)]
  · rw [h.2 k (fun m hm e => hk ⟨m, hm, e⟩), h'.2 k (fun m hm e => hk ⟨m, (he m).2 hm, e⟩)]
/-- Those that have counted. -/
def Cnt (b : BegS) (S0 : Slots) (cs : List MailS) (S : Slots) : Prop := Puts S0 cs S ∧ cs.Pairwise (fun x y => keyM x ≠ keyM y) ∧ ∀ m ∈ cs, stOk b m ∧ S0 (keyM m) = none
theorem cnt_nil (b : BegS) (S0 : Slots) : Cnt b S0 [] S0 := ⟨puts_nil S0, List.Pairwise.nil, by simp⟩
theorem cnt_add {b : BegS} {S0 S : Slots} {cs : List MailS} {m : MailS} (h : Cnt b S0 cs S) (ha : addOk b S m) : Cnt b S0 (cs ++ [m]) (addS b S m) := by
  have hs := addOk_iff.1 ha
  have hne : ∀ x ∈ cs, keyM x ≠ keyM m := fun x hx e => by
    have := h.1.1 x hx
    rw [e, hs.2] at this
    cases this
  rw [addS_yes ha]
  refine ⟨puts_put h.1 hs.2, ?_, fun x hx => ?_⟩
  · rw [List.pairwise_append]
    refine ⟨h.2.1, by simp, fun x hx y hy => ?_⟩
    obtain rfl : y = m := by simpa using hy
    exact hne x hx
  · rcases List.mem_append.1 hx with hx | hx
    · exact h.2.2 x hx
    · obtain rfl : x = m := by simpa using hx
      refine ⟨hs.1, ?_⟩
      rw [← h.1.2 (keyM x) hne]
      exact hs.2
/-- Backwards: the one at place i counts behind those that stand behind it. -/
theorem cnt_back {b : BegS} {S0 S T : Slots} {cs : List MailS} {m : MailS} {i : Nat} (h : Cnt b S0 cs S) (hm : cs[i]? = some m) (hT : Puts S0 (cs.drop (i + 1)) T) : addOk b T m ∧ Puts S0 (cs.drop i) (addS b T m) := by
  have hi := (List.getElem?_eq_some_iff.1 hm)
  obtain ⟨hil, hie⟩ := hi
  have hd : cs.drop i = m :: cs.drop (i + 1) := by rw [List.drop_eq_getElem_cons hil, hie]
  have hmem := List.mem_of_getElem? hm
  have hne : ∀ x ∈ cs.drop (i + 1), keyM x ≠ keyM m := fun x hx e => by
    obtain ⟨k, hk⟩ := List.getElem?_of_mem hx
    rw [List.getElem?_drop] at hk
    obtain ⟨hkl, hke⟩ := List.getElem?_eq_some_iff.1 hk
    have := List.pairwise_iff_getElem.1 h.2.1 i (i + 1 + k) hil hkl (by omega)
    rw [hie, hke] at this
    exact this e.symm
  have ha : addOk b T m := addOk_iff.2 ⟨(h.2.2 m hmem).1, by rw [hT.2 _ hne]; exact (h.2.2 m hmem).2⟩
  refine ⟨ha, ?_⟩
  rw [addS_yes ha]
  have hp := puts_put hT (addOk_iff.1 ha).2
  rw [hd]
  refine ⟨fun x hx => hp.1 x ?_, fun k hk => hp.2 k (fun x hx => hk x ?_)⟩
  · rcases List.mem_cons.1 hx with rfl | hx
    · simp
    · simp [hx]
  · rcases List.mem_append.1 hx with hx | hx
    · simp [hx]
    · obtain rfl : x = m := by simpa using hx
      simp
theorem cnt_end {b : BegS} {S0 S T : Slots} {cs : List MailS} (h : Cnt b S0 cs S) (hT : Puts S0 cs T) : S = T := puts_one h.1 hT (fun _ => Iff.rfl)
/-- It had not been counted. -/
theorem cnt_fresh {b : BegS} {S0 S : Slots} {cs : List MailS} {m : MailS} (h : Cnt b S0 cs S) (ha : addOk b S m) : ∀ x ∈ cs, keyM x ≠ keyM m := fun x hx e => by
  have := h.1.1 x hx
  rw [e, (addOk_iff.1 ha).2] at this
  cases this

/-- What is asked of one site. -/
def askOf (b : BegS) (i : Int) : MailS := ⟨1, b.site, i, b.stream, b.epoch, 0, 0, 0, b.stamp, []⟩
def askTo (b : BegS) (j : Nat) : List MailS := ((List.range j).filter fun (i : Nat) => decide ((i : Int) ≠ b.site)).map fun (i : Nat) => askOf b (i : Int)
theorem askTo_yes {b : BegS} {j : Nat} (h : (j : Int) ≠ b.site) : askTo b (j + 1) = askTo b j ++ [askOf b j] := by
  unfold askTo
  rw [List.range_succ, List.filter_append]
  simp [h]
theorem askTo_no {b : BegS} {j : Nat} (h : (j : Int) = b.site) : askTo b (j + 1) = askTo b j := by
  unfold askTo
  rw [List.range_succ, List.filter_append]
  simp [h]
theorem askTo_len (b : BegS) : ∀ j : Nat, ((askTo b j).length : Int) = if 0 ≤ b.site ∧ b.site < j then (j : Int) - 1 else j
  | 0 => by
    rw [if_neg (by omega)]
    rfl
  | j + 1 => by
    have ih := askTo_len b j
    by_cases h : (j : Int) = b.site
    · rw [askTo_no h, ih, if_neg (by omega), if_pos (by omega)]
      omega
    · rw [askTo_yes h, List.length_append]
      simp only [List.length_cons, List.length_nil]
      by_cases h2 : 0 ≤ b.site ∧ b.site < j
      · rw [if_pos h2] at ih
        rw [if_pos (by omega)]
        omega
      · rw [if_neg h2] at ih
        rw [if_neg (by omega)]
        omega
/-- The k-th one that is asked. -/
theorem askTo_at {b : BegS} {n : Nat} (h0 : 0 ≤ b.site) (hn : b.site < n) : ∀ (k : Nat), k + 1 < n → (askTo b n)[k]? = some (askOf b (if (k : Int) < b.site then (k : Int) else k + 1)) := by
  have key : ∀ (j : Nat) (k : Nat) (x : MailS), (askTo b j)[k]? = some x → x = askOf b (if (k : Int) < b.site then (k : Int) else k + 1) := by
    intro j
    induction j with
    | zero => intro k x h; simp [askTo] at h
    | succ j ih =>
      intro k x h
      by_cases hj : (j : Int) = b.site
      · rw [askTo_no hj] at h
        exact ih k x h
      · rw [askTo_yes hj] at h
        rcases Nat.lt_or_ge k (askTo b j).length with hk | hk
        · rw [List.getElem?_append_left hk] at h
          exact ih k x h
        · rw [List.getElem?_append_right hk] at h
          have hk1 := (List.getElem?_eq_some_iff.1 h).1
          simp only [List.length_cons, List.length_nil] at hk1
          have hk2 : k = (askTo b j).length := by omega
          rw [hk2, Nat.sub_self] at h
          cases h
          have hl := askTo_len b j
          by_cases h2 : 0 ≤ b.site ∧ b.site < j
          · rw [if_pos h2] at hl
            rw [if_neg (by omega)]
            congr 1
            omega
          · rw [if_neg h2] at hl
            rw [if_pos (by omega)]
            congr 1
            omega
  intro k hk
  have hl := askTo_len b n
  rw [if_pos ⟨h0, hn⟩] at hl
  have hlt : k < (askTo b n).length := by omega
  rw [List.getElem?_eq_getElem hlt]
  exact congrArg some (key n k _ (List.getElem?_eq_getElem hlt))

/-- A log that begins with these. -/
theorem best_in {S : Slots} {k : Nat} {r : RegS} (hk : k < 7) (hS : S k = some r) : ∃ q, (listTo S 7)[bestAt S]? = some q ∧ bestLog S = q.log ∧ r.view ≤ q.view ∧ ∃ i, i < 7 ∧ S i = some q := by
  have hm : ((k : Int), r) ∈ pairs S := mem_pairs.2 ⟨k, hk, rfl, hS⟩
  have hl : 0 < (listTo S 7).length := by
    rw [← pairs_len]
    exact List.length_pos_of_mem hm
  obtain ⟨p, h1, h2, h3⟩ := bestAt_is hl
  have h4 := h3.2 _ hm
  obtain ⟨pi, pr⟩ := p
  unfold BetterD at h4
  simp only at h4
  obtain ⟨i, hi, _, hSi⟩ := mem_pairs.1 h3.1
  refine ⟨pr, h2, ?_, by omega, i, hi, hSi⟩
  unfold bestLog
  rw [h2]
  rfl
end Go.Proofs.Ytbicefilfhcgoaa

set_option linter.unusedSimpArgs false
set_option linter.unusedVariables false
set_option maxRecDepth 100000
namespace Go.Proofs.Ytbicefilfhcgoaa
open Go Go.RowKit Go.Sq Go.Wd Go.Arch

def askV (m : MailS) : MailV := ⟨m, no0, (0, 0, 0, 0, 0), (0, 0, 0)⟩
theorem askV_enc (b : BegS) (i : Int) : mailv (askV (askOf b i)) = [.int .i64 1, .int .i64 b.site, .int .i64 i, .int .i64 b.stream, .int .i64 b.epoch, .int .i64 0, .int .i64 0, .int .i64 0, .int .i64 b.stamp, .slice none 0 0, .int .i64 0, .int .i64 0, .int .i64 0, .int .i64 0, .int .i64 0, .int .i64 0, .int .i64 0, .int .i64 0] := rfl

set_option maxHeartbeats 2000000 in
theorem bmail_any (g : Nat) (b : BegS) (S : Slots) (sl : Sls) (w : World) (hb : Blk w g 85 (balv b S sl)) (n : Nat) (hn : b.n = n) (h0 : 0 < n) (h7 : n ≤ 7) :
    Calls Try.prog 34 #[.pointer (some ⟨g, 0, none⟩)] w fun e w' => ∃ v, e = .returned v ∧ Gr.Row mailE w' w.heap.size v ((askTo b n).map askV) ∧ Below w.heap.size w w' := by
  have hw : Below w.heap.size w w := Below.refl _ _
  have hz : ((n : Int) == 0) = false := by rw [beq_eq_false_iff_ne]; omega
  have hg := hb.lt
  have H := Lib.hid hb
  have FC : ∀ w', Below w.heap.size w w' → w'.cell? ⟨g, 0, none⟩ = some (.int .i64 b.stream) ∧ w'.cell? ⟨g, 1, none⟩ = some (.int .i64 b.epoch) ∧ w'.cell? ⟨g, 2, none⟩ = some (.int .i64 b.site) ∧ w'.cell? ⟨g, 3, none⟩ = some (.int .i64 (n : Int)) ∧ w'.cell? ⟨g, 4, none⟩ = some (.int .i64 b.stamp) := fun w' h =>
    ⟨(H.out.keep h).cell 0, (H.out.keep h).cell 1, (H.out.keep h).cell 2, by rw [← hn]; exact (H.out.keep h).cell 3, (H.out.keep h).cell 4⟩
  have HN := Lib.hid hn
  clear hb hn
  obtain ⟨c0, c1, c2, c3, c4⟩ := FC _ hw
  go_enter Try.func34, Try.ntmps34
  go_wp2_with fail
  refine (none_any g n w c3).mono ?_
  rintro e w1 ⟨rfl, rfl⟩
  rw [hz]
  clear c0 c1 c2 c4
  go_wp2_with fail
  clear c3
  go_loopg [3, 11] n (fun q v i wr => ∃ j : Nat, q = n - j ∧ j ≤ n ∧ i = .int .i64 j ∧ Below w1.heap.size w1 wr ∧ Gr.Row mailE wr w1.heap.size v ((askTo b j).map askV))
  case atStart => exact ⟨0, rfl, by omega, rfl, hw, Gr.Row.nil (R := mailE) w1 _⟩
  case round =>
    clear hw
    obtain ⟨j, hq, hj, rfl, hwr, hR⟩ := hrel
    have AA : Aside (gk = n - j) := hq
    clear hq
    obtain ⟨wo, rfl⟩ : ∃ wo, wo = wr := ⟨_, rfl⟩
    by_cases hlt : j < n
    · have hi7 : (j : Int) < (n : Int) := by omega
      have hi0 : (0 : Int) ≤ (j : Int) := by omega
      obtain ⟨c0, c1, c2, c3, c4⟩ := FC _ hwr
      by_cases hs : (j : Int) = b.site
      · have HS := Lib.hid hs
        have hne : ((j : Int) != b.site) = false := by simpa using hs
        clear hs
        go_wp2_with fail
        go_roundg (n - (j + 1))
        case measure => have hkk := AA.out; omega
        case rel => exact ⟨j + 1, rfl, by omega, by go_num, hwr, by rw [askTo_no HS.out]; exact hR⟩
      · have HS := Lib.hid hs
        have hne : ((j : Int) != b.site) = true := by simpa using hs
        clear hs
        have hl9 : ((askTo b j).map askV).length ≤ 7 := by
          rw [List.length_map]
          have := askTo_len b j
          split at this <;> omega
        have hwd := hwr.drew
        have hRd := Gr.Row.keep hR (Below.refl _ _).drew
        obtain ⟨v2, w2, hrun, hR2, hg2, _⟩ := Gr.Row.snoc hRd (askV (askOf b j)) (by omega) hwd.size (H := wo.drew.heap.size) rfl 54
        have hb2 := Gr.below_row hwd hg2 hRd hwd.size
        rw [show ((askTo b j).map askV ++ [askV (askOf b j)]) = (askTo b (j + 1)).map askV by rw [askTo_yes HS.out, List.map_append]; rfl] at hR2
        have HR2 := Lib.hid (And.intro hR2 hb2)
        clear hg2 hR hRd hl9 hR2 hb2
        have hrun' : (Builtin.append_ #[54, 54] 54 #[u3, .slice (some ⟨wo.drew.heap.size, 0, none⟩) 1 1]).run Try.prog (wo.drew.alloc (.cells #[.int .i64 1, .int .i64 b.site, .int .i64 (j : Int), .int .i64 b.stream, .int .i64 b.epoch, .int .i64 0, .int .i64 0, .int .i64 0, .int .i64 b.stamp, .slice none 0 0, .int .i64 0, .int .i64 0, .int .i64 0, .int .i64 0, .int .i64 0, .int .i64 0, .int .i64 0, .int .i64 0] 65)) = .ok v2 w2 := hrun
        clear hrun
        go_wp2_with fail
        refine wp_region_p ([(0, true), (1, true), (2, true), (3, true), (4, true), (5, true), (6, true), (7, true), (8, true), (9, true), (10, true), (11, true), (12, true), (13, true), (14, true), (15, true), (16, true), (17, true), (18, true), (19, false), (20, false), (21, true)]) (fun w' => Below w1.heap.size w1 w') (by kernel_rfl) rfl (by kernel_rfl) (by kernel_rfl) (hwd) rfl ?_
        intro KP RP TP hKP hTP hTP'
        simp only [List.append_eq, List.cons_append, List.nil_append, pick, nth]
        go_wp2_with (first
          | (apply SeqP.skip; rfl; simp only [Act.put, List.setIfInBounds_toArray, List.set_cons_zero, List.set_cons_succ])
          | (apply SeqP.call; rfl; rfl; (intro w2 hw; have hw := hTP _ hw; ((obtain ⟨q0, q1, q2, q3, q4⟩ := FC _ hw)); go_simp; exact ⟨rfl, rfl⟩); (intro w2 hw; have hw := hTP _ hw; ((obtain ⟨q0, q1, q2, q3, q4⟩ := FC _ hw)); (first | fail)); simp only [Act.put, List.setIfInBounds_toArray, List.set_cons_zero, List.set_cons_succ])
          | (apply SeqP.pure; rfl; (intro w2 hw; have hw := hTP _ hw; ((obtain ⟨q0, q1, q2, q3, q4⟩ := FC _ hw)); go_simp; with_reducible rfl); simp only [Act.put, List.setIfInBounds_toArray, List.set_cons_zero, List.set_cons_succ])
          | (apply SeqP.split; rfl; rfl; all_goals (intro hc; simp only [hc]; try simp only [beq_iff_eq, decide_eq_true_eq, beq_eq_false_iff_ne, decide_eq_false_iff_not, bne_iff_ne, ne_eq, Bool.not_eq_true', Bool.not_eq_false', Int.not_le, Int.not_lt, bne_eq_false_iff_eq, Bool.or_eq_true, Bool.and_eq_true, Bool.or_eq_false_iff] at hc)))
        apply SeqP.eff
        · rfl
        intro KE hKE
        go_wp2_with fail
        refine hKE _ _ (hTP' _ (hwd.alloc hwd.size _)) ?_
        clear hKE KE
        go_wp2_with (first
          | (apply SeqP.skip; rfl; simp only [Act.put, List.setIfInBounds_toArray, List.set_cons_zero, List.set_cons_succ])
          | (apply SeqP.call; rfl; rfl; (intro w2 hw; have hw := hTP _ hw; ((obtain ⟨q0, q1, q2, q3, q4⟩ := FC _ hw)); go_simp; exact ⟨rfl, rfl⟩); (intro w2 hw; have hw := hTP _ hw; ((obtain ⟨q0, q1, q2, q3, q4⟩ := FC _ hw)); (first | fail)); simp only [Act.put, List.setIfInBounds_toArray, List.set_cons_zero, List.set_cons_succ])
          | (apply SeqP.pure; rfl; (intro w2 hw; have hw := hTP _ hw; ((obtain ⟨q0, q1, q2, q3, q4⟩ := FC _ hw)); go_simp; with_reducible rfl); simp only [Act.put, List.setIfInBounds_toArray, List.set_cons_zero, List.set_cons_succ])
          | (apply SeqP.split; rfl; rfl; all_goals (intro hc; simp only [hc]; try simp only [beq_iff_eq, decide_eq_true_eq, beq_eq_false_iff_ne, decide_eq_false_iff_not, bne_iff_ne, ne_eq, Bool.not_eq_true', Bool.not_eq_false', Int.not_le, Int.not_lt, bne_eq_false_iff_eq, Bool.or_eq_true, Bool.and_eq_true, Bool.or_eq_false_iff] at hc)))
        apply SeqP.eff
        · rfl
        intro KE hKE
        refine oper_app (by rfl) (by rfl) (by rfl) hrun' ?_
        refine hKE _ _ (hTP' _ HR2.out.2) ?_
        clear hKE KE
        go_wp2_with (first
          | (apply SeqP.skip; rfl; simp only [Act.put, List.setIfInBounds_toArray, List.set_cons_zero, List.set_cons_succ])
          | (apply SeqP.call; rfl; rfl; (intro w2 hw; have hw := hTP _ hw; ((obtain ⟨q0, q1, q2, q3, q4⟩ := FC _ hw)); go_simp; exact ⟨rfl, rfl⟩); (intro w2 hw; have hw := hTP _ hw; ((obtain ⟨q0, q1, q2, q3, q4⟩ := FC _ hw)); (first | fail)); simp only [Act.put, List.setIfInBounds_toArray, List.set_cons_zero, List.set_cons_succ])
          | (apply SeqP.pure; rfl; (intro w2 hw; have hw := hTP _ hw; ((obtain ⟨q0, q1, q2, q3, q4⟩ := FC _ hw)); go_simp; with_reducible rfl); simp only [Act.put, List.setIfInBounds_toArray, List.set_cons_zero, List.set_cons_succ])
          | (apply SeqP.split; rfl; rfl; all_goals (intro hc; simp only [hc]; try simp only [beq_iff_eq, decide_eq_true_eq, beq_eq_false_iff_ne, decide_eq_false_iff_not, bne_iff_ne, ne_eq, Bool.not_eq_true', Bool.not_eq_false', Int.not_le, Int.not_lt, bne_eq_false_iff_eq, Bool.or_eq_true, Bool.and_eq_true, Bool.or_eq_false_iff] at hc)))
        apply SeqP.nil
        refine hKP _ _ (hTP' _ (HR2.out.2)) ?_
        clear hKP hTP hTP'
        go_wp2_with fail
        go_roundg (n - (j + 1))
        case measure => have hkk := AA.out; omega
        case rel => exact ⟨j + 1, rfl, by omega, by go_num, HR2.out.2, HR2.out.1⟩
    · have hj' : j = n := by omega
      subst hj'
      obtain ⟨c0, c1, c2, c3, c4⟩ := FC _ hwr
      go_wp2_with fail
      go_ret
      exact ⟨_, rfl, hR, hwr⟩
end Go.Proofs.Ytbicefilfhcgoaa

set_option linter.unusedSimpArgs false
set_option linter.unusedVariables false
set_option maxRecDepth 100000
namespace Go.Proofs.Ytbicefilfhcgoaa
open Go Go.RowKit Go.Sq Go.Wd Go.Arch

def NoBal (w : World) (v : Value) : Prop := v = .pointer none ∨ ∃ g, v = .pointer (some ⟨g, 0, none⟩) ∧ w.cell? ⟨g, 3, none⟩ = some (.int .i64 0)
theorem NoBal.keep {w w' : World} {v : Value} (h : NoBal w v) (hb : Below w.heap.size w w') : NoBal w' v := by
  rcases h with rfl | ⟨g, rfl, hc⟩
  · exact .inl rfl
  · exact .inr ⟨g, rfl, (hb.cell (p := ⟨g, 3, none⟩) (World.block_lt_of_cell? _ _ hc)).trans hc⟩
theorem none_no {w : World} {v : Value} (h : NoBal w v) : Calls Try.prog 52 #[v] w fun e w' => e = .returned (.bool true) ∧ w' = w := by
  rcases h with rfl | ⟨g, rfl, hc⟩
  · exact none_nil w
  · exact none_any g 0 w hc
section
variable {w : World} {v : Value}
theorem bepoch_no (h : NoBal w v) : Calls Try.prog 44 #[v] w fun e w' => e = .returned (.int .i64 0) ∧ w' = w := by
  go_enter Try.func44, Try.ntmps44
  go_wp2_with fail
  refine (none_no h).mono ?_
  rintro e w1 ⟨rfl, rfl⟩
  go_wp2_with fail
  go_ret
  exact ⟨rfl, rfl⟩
theorem bstamp_no (h : NoBal w v) : Calls Try.prog 45 #[v] w fun e w' => e = .returned (.int .i64 0) ∧ w' = w := by
  go_enter Try.func45, Try.ntmps45
  go_wp2_with fail
  refine (none_no h).mono ?_
  rintro e w1 ⟨rfl, rfl⟩
  go_wp2_with fail
  go_ret
  exact ⟨rfl, rfl⟩
theorem bmail_no (h : NoBal w v) : Calls Try.prog 34 #[v] w fun e w' => e = .returned (.slice none 0 0) ∧ w' = w := by
  go_enter Try.func34, Try.ntmps34
  go_wp2_with fail
  refine (none_no h).mono ?_
  rintro e w1 ⟨rfl, rfl⟩
  go_wp2_with fail
  go_ret
  exact ⟨rfl, rfl⟩
theorem bsites_no (h : NoBal w v) : Calls Try.prog 42 #[v] w fun e w' => e = .returned (.slice none 0 0) ∧ w' = w := by
  go_enter Try.func42, Try.ntmps42
  go_wp2_with fail
  refine (none_no h).mono ?_
  rintro e w1 ⟨rfl, rfl⟩
  go_wp2_with fail
  go_ret
  exact ⟨rfl, rfl⟩
theorem chosen_no (h : NoBal w v) : Calls Try.prog 32 #[v] w fun e w' => e = .returned (.tuple #[.slice none 0 0, .int .i64 0, .int .i64 1]) ∧ w' = w := by
  go_enter Try.func32, Try.ntmps32
  go_wp2_with fail
  refine (none_no h).mono ?_
  rintro e w1 ⟨rfl, rfl⟩
  go_wp2_with fail
  apply ret_of
  · simp only [results, Try.results32]
    go_simp
    with_reducible rfl
  refine ⟨rfl, ?_⟩
  exact ⟨rfl, rfl⟩
set_option maxHeartbeats 2000000 in
theorem won_no (h : NoBal w v) : Calls Try.prog 33 #[v] w fun e w' => e = .returned (.bool false) ∧ Below w.heap.size w w' := by
  have H := Lib.hid h
  clear h
  have hw : Below w.heap.size w w := Below.refl _ _
  go_enter Try.func33, Try.ntmps33
  go_wp2_with fail
  refine wp_region_p ([(0, true), (1, true), (2, true), (3, true), (4, true), (7, true), (8, true), (9, true), (10, true), (5, false), (6, true), (11, true), (12, true), (13, true), (14, true)]) (fun w' => Below w.heap.size w w') (by kernel_rfl) rfl (by kernel_rfl) (by kernel_rfl) (hw.drew) rfl ?_
  intro KP RP TP hKP hTP hTP'
  simp only [pick, nth]
  go_wp2_with (first
    | (apply SeqP.skip; rfl; simp only [Act.put, List.setIfInBounds_toArray, List.set_cons_zero, List.set_cons_succ])
    | (apply SeqP.call; rfl; rfl; (intro w2 hw; have hw := hTP _ hw; (skip); go_simp; exact ⟨rfl, rfl⟩); (intro w2 hw; have hw := hTP _ hw; (skip); (first | (go_at_call 52; refine (none_no (H.out.keep hw)).mono ?_; rintro e w' ⟨rfl, rfl⟩; exact ⟨rfl, rfl⟩) | (go_at_call 36; refine (maj_any _ _).mono ?_; rintro e w' ⟨rfl, rfl⟩; exact ⟨rfl, rfl⟩))); simp only [Act.put, List.setIfInBounds_toArray, List.set_cons_zero, List.set_cons_succ])
    | (apply SeqP.pure; rfl; (intro w2 hw; have hw := hTP _ hw; (skip); go_simp; with_reducible rfl); simp only [Act.put, List.setIfInBounds_toArray, List.set_cons_zero, List.set_cons_succ])
    | (apply SeqP.split; rfl; rfl; all_goals (intro hc; simp only [hc]; try simp only [beq_iff_eq, decide_eq_true_eq, beq_eq_false_iff_ne, decide_eq_false_iff_not, bne_iff_ne, ne_eq, Bool.not_eq_true', Bool.not_eq_false', Int.not_le, Int.not_lt, bne_eq_false_iff_eq, Bool.or_eq_true, Bool.and_eq_true, Bool.or_eq_false_iff] at hc)))
  apply SeqP.skip_eff
  · rfl
  · exact hTP' _ (hw.drew)
  (try simp only [Act.put, List.setIfInBounds_toArray, List.set_cons_zero, List.set_cons_succ])
  go_wp2_with (first
    | (apply SeqP.skip; rfl; simp only [Act.put, List.setIfInBounds_toArray, List.set_cons_zero, List.set_cons_succ])
    | (apply SeqP.call; rfl; rfl; (intro w2 hw; have hw := hTP _ hw; (skip); go_simp; exact ⟨rfl, rfl⟩); (intro w2 hw; have hw := hTP _ hw; (skip); (first | (go_at_call 52; refine (none_no (H.out.keep hw)).mono ?_; rintro e w' ⟨rfl, rfl⟩; exact ⟨rfl, rfl⟩) | (go_at_call 36; refine (maj_any _ _).mono ?_; rintro e w' ⟨rfl, rfl⟩; exact ⟨rfl, rfl⟩))); simp only [Act.put, List.setIfInBounds_toArray, List.set_cons_zero, List.set_cons_succ])
    | (apply SeqP.pure; rfl; (intro w2 hw; have hw := hTP _ hw; (skip); go_simp; with_reducible rfl); simp only [Act.put, List.setIfInBounds_toArray, List.set_cons_zero, List.set_cons_succ])
    | (apply SeqP.split; rfl; rfl; all_goals (intro hc; simp only [hc]; try simp only [beq_iff_eq, decide_eq_true_eq, beq_eq_false_iff_ne, decide_eq_false_iff_not, bne_iff_ne, ne_eq, Bool.not_eq_true', Bool.not_eq_false', Int.not_le, Int.not_lt, bne_eq_false_iff_eq, Bool.or_eq_true, Bool.and_eq_true, Bool.or_eq_false_iff] at hc)))
  apply SeqP.nil
  refine hKP _ _ (hTP' _ (hw.drew)) ?_
  clear hKP hTP hTP'
  go_wp2_with fail
  go_ret
  exact ⟨rfl, hw.drew⟩
set_option maxHeartbeats 2000000 in
theorem add_nob (h : NoBal w v) (x : MailV) : Calls Try.prog 31 #[v, .agg (mailv x).toArray] w fun e w' => e = .returned (.bool false) ∧ Below w.heap.size w w' := by
  have H := Lib.hid h
  clear h
  have hw : Below w.heap.size w (w.alloc (.cells (mailv x).toArray 65)) := (Below.refl _ _).alloc (Nat.le_refl _) _
  have HW := Lib.hid hw
  clear hw
  go_enter Try.func31, Try.ntmps31
  go_wp2_with fail
  refine wp_region_p ([(0, true), (1, true), (2, true), (3, true), (4, true), (5, true), (6, true), (7, true), (8, true), (9, true), (10, true), (11, true), (12, true), (13, true), (14, true), (15, true), (16, true), (17, true), (18, true), (19, true), (20, true), (21, true), (22, true), (23, true), (24, true), (25, true), (26, true), (27, true), (28, true), (29, true), (30, true), (31, true), (32, true), (33, true), (34, true), (35, true), (36, true), (37, true), (38, true), (39, true), (40, true), (41, true), (42, true), (43, true), (44, true), (45, true), (46, true), (47, true), (48, true), (49, true), (50, true), (51, true), (52, true), (53, true), (54, true), (55, true), (56, true), (57, true), (58, true), (59, true), (60, true), (61, true), (62, true), (63, true), (64, true), (65, true)]) (fun w' => Below w.heap.size w w') (by kernel_rfl) rfl (by kernel_rfl) (by kernel_rfl) (HW.out.drew) rfl ?_
  intro KP RP TP hKP hTP hTP'
  simp only [List.append_eq, List.cons_append, List.nil_append, pick, nth]
  go_wp2_with (first
    | (apply SeqP.skip; rfl; simp only [Act.put, List.setIfInBounds_toArray, List.set_cons_zero, List.set_cons_succ])
    | (apply SeqP.call; rfl; rfl; (intro w2 hw; have hw := hTP _ hw; (skip); go_simp; exact ⟨rfl, rfl⟩); (intro w2 hw; have hw := hTP _ hw; (skip); (first | (go_at_call 52; refine (none_no (H.out.keep hw)).mono ?_; rintro e w' ⟨rfl, rfl⟩; exact ⟨rfl, rfl⟩))); simp only [Act.put, List.setIfInBounds_toArray, List.set_cons_zero, List.set_cons_succ])
    | (apply SeqP.pure; rfl; (intro w2 hw; have hw := hTP _ hw; (skip); go_simp; with_reducible rfl); simp only [Act.put, List.setIfInBounds_toArray, List.set_cons_zero, List.set_cons_succ])
    | (apply SeqP.split; rfl; rfl; all_goals (intro hc; simp only [hc]; try simp only [beq_iff_eq, decide_eq_true_eq, beq_eq_false_iff_ne, decide_eq_false_iff_not, bne_iff_ne, ne_eq, Bool.not_eq_true', Bool.not_eq_false', Int.not_le, Int.not_lt, bne_eq_false_iff_eq, Bool.or_eq_true, Bool.and_eq_true, Bool.or_eq_false_iff] at hc)))
  apply SeqP.nil
  refine hKP _ _ (hTP' _ (HW.out.drew)) ?_
  clear hKP hTP hTP'
  go_wp2_with fail
  go_ret
  exact ⟨rfl, HW.out.drew⟩
end
end Go.Proofs.Ytbicefilfhcgoaa
