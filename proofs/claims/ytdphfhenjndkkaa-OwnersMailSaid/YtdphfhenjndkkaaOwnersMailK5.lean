/-
  The walks over owners' New, and the document's.
  The walk over chapter 20's 'made'.
  The facts that chapter 20's lives needs.
  The walk over chapter 20's 'lives'.
  Loads of a piece of mail from amid a slice; the walks over chapter 18's 'beyond' and 'entry'.
  The walk over lay of an owner.
  The walks over Mail and Again of an owner.
  The walk over Again of an owner.
-/
import Derived.Deep.LoopGhost
import Derived.Test.YtdphfhenjndkkaaOwnersMailK1
import Derived.Test.YtdphfhenjndkkaaOwnersMailK2
import Derived.Test.YtdphfhenjndkkaaOwnersMailK3
import Derived.Test.YtdphfhenjndkkaaOwnersMailK4
set_option linter.unusedSimpArgs false
set_option linter.unusedVariables false
set_option maxRecDepth 100000
namespace Go.Proofs.Ytdphfhenjndkkaa
open Go Go.RowKit Go.Sq Go.Wd Go.Arch

/-- Stamps told by these sites. -/
def stFold (l : List Int) (stamp : Int) (f : Nat → Int) : Nat → Int := l.foldl (fun f i => up7 f i.toNat stamp) f
theorem stFold_snoc (l : List Int) (i stamp : Int) (f : Nat → Int) : stFold (l ++ [i]) stamp f = up7 (stFold l stamp f) i.toNat stamp := by
  unfold stFold
  rw [List.foldl_append]
  rfl
def madeO (stream epoch site n stamp : Int) (l : List Int) : OwnS := ⟨stream, epoch, site, n, fun _ => -1, stFold l stamp (fun _ => -1), false, 0⟩
/-- The first j of them are told. -/
def lessTo (j : Nat) : Nat → Int := fun i => if i < j then -1 else 0
theorem lessTo_up (j : Nat) : up7 (lessTo j) j (-1) = lessTo (j + 1) := by
  funext i
  unfold up7 lessTo
  by_cases h : i = j
  · subst h
    rw [if_pos rfl, if_pos (by omega)]
  · rw [if_neg h]
    by_cases h2 : i < j
    · rw [if_pos h2, if_pos (by omega)]
    · rw [if_neg h2, if_neg (by omega)]
theorem own_less (stream epoch site n : Int) : ownv ⟨stream, epoch, site, n, lessTo 7, lessTo 7, false, 0⟩ = ownv ⟨stream, epoch, site, n, fun _ => -1, fun _ => -1, false, 0⟩ := rfl
theorem sites_in {S : Slots} {i : Int} (h : i ∈ sitesTo S 7) : 0 ≤ i ∧ i < 7 := by
  unfold sitesTo at h
  obtain ⟨k, hk, he⟩ := List.mem_filterMap.1 h
  cases hS : S k with
  | none => rw [hS] at he; cases he
  | some r =>
    rw [hS] at he
    obtain rfl : (k : Int) = i := by simpa using he
    have : k < 7 := by simpa using hk
    omega

set_option maxHeartbeats 4000000 in
theorem rnew20_any (stream epoch site n stamp : Int) (l : List Int) (A : Option Addr) (c : Nat) (w : World) (hl : Nums w w.heap.size A .i64 l) (hll : l.length ≤ 9223372036854775807) (hin : ∀ i ∈ l, 0 ≤ i ∧ i < 7) :
    Calls Try.prog 55 #[.int .i64 stream, .int .i64 epoch, .int .i64 site, .int .i64 n, .int .i64 stamp, .slice A l.length c] w fun e w' => ∃ g, e = .returned (.pointer (some ⟨g, 0, none⟩)) ∧ w.heap.size ≤ g ∧ Blk w' g 78 (ownv (madeO stream epoch site n stamp l)) ∧ Below w.heap.size w w' := by
  have hw0 : Below w.heap.size w (w.alloc (.cells (ownv ⟨stream, epoch, site, n, lessTo 0, lessTo 0, false, 0⟩).toArray 78)) := (Below.refl _ _).alloc (Nat.le_refl _) _
  have HB := Lib.hid (And.intro hw0 (Blk.new w 78 (ownv ⟨stream, epoch, site, n, lessTo 0, lessTo 0, false, 0⟩)))
  have HL := Lib.hid (And.intro hl hin)
  clear hw0 hl hin
  go_enter Try.func55, Try.ntmps55
  go_wp2_with fail
  go_loopg [14] 7 (fun q i wr => ∃ j : Nat, q = 7 - j ∧ j ≤ 7 ∧ i = .int .i64 j ∧ Below w.heap.size w wr ∧ Blk wr w.heap.size 78 (ownv ⟨stream, epoch, site, n, lessTo j, lessTo j, false, 0⟩))
  case atStart => exact ⟨0, rfl, by omega, rfl, HB.out.1, HB.out.2⟩
  case round =>
    clear HB
    obtain ⟨j, hq, hj, rfl, hwr, hB⟩ := hrel
    have AA : Aside (gk = 7 - j) := hq
    clear hq
    obtain ⟨wo, rfl⟩ : ∃ wo, wo = wr := ⟨_, rfl⟩
    by_cases hlt : j < 7
    · have j0 : (0 : Int) ≤ (j : Int) := by omega
      have j1 : (j : Int) < 7 := by omega
      have c1 : wo.cell? ⟨w.heap.size, 4 + j, none⟩ = some (.int .i64 (lessTo j j)) := by rw [hB.cell, ownv_has _ hlt]
      have f1 : wo.frozen? ⟨w.heap.size, 4 + j, none⟩ = false := hB.frozen _
      have B2 := hB.set (4 + j) (.int .i64 (-1))
      rw [ownv_setHas _ hlt] at B2
      have c2 : (wo.setCell ⟨w.heap.size, 4 + j, none⟩ (.int .i64 (-1))).cell? ⟨w.heap.size, 11 + j, none⟩ = some (.int .i64 (lessTo j j)) := by rw [B2.cell, ownv_st _ hlt]
      have f2 : (wo.setCell ⟨w.heap.size, 4 + j, none⟩ (.int .i64 (-1))).frozen? ⟨w.heap.size, 11 + j, none⟩ = false := B2.frozen _
      have B3 := B2.set (11 + j) (.int .i64 (-1))
      rw [ownv_setSt _ hlt] at B3
      simp only [lessTo_up] at B3
      have hg3 : wo.grownBy ((wo.setCell ⟨w.heap.size, 4 + j, none⟩ (.int .i64 (-1))).setCell ⟨w.heap.size, 11 + j, none⟩ (.int .i64 (-1))) (some w.heap.size) := by (repeat (first | with_reducible apply only_drew | with_reducible refine only_setCell ?_ (by first | exact Or.inl rfl | (right; simp; done) | (right; simp; omega) | (right; omega)) _ | with_reducible refine only_alloc ?_ _ | with_reducible exact World.grownBy.refl _ _ | with_reducible assumption))
      have H3 := Lib.hid (And.intro (hwr.trans (Go.Wd.below_grown hg3 (Nat.le_refl _) hwr.size)) B3)
      clear B2 B3 hB hwr hg3
      go_wp2_with fail
      go_roundg (7 - (j + 1))
      case measure => have hkk := AA.out; omega
      case rel => exact ⟨j + 1, rfl, by omega, by go_num, H3.out.1, H3.out.2⟩
    · obtain rfl : j = 7 := by omega
      rw [own_less] at hB
      have H3 := Lib.hid (And.intro hwr hB)
      clear hB hwr
      go_wp2_with fail
      go_loopg [15] l.length (fun q i wr => ∃ t : Nat, q = l.length - t ∧ t ≤ l.length ∧ i = .int .i64 t ∧ Below w.heap.size w wr ∧ Blk wr w.heap.size 78 (ownv (madeO stream epoch site n stamp (l.take t))))
      case atStart => exact ⟨0, rfl, by omega, rfl, H3.out.1, H3.out.2⟩
      case round =>
        clear H3 AA
        obtain ⟨t, hq, ht, rfl, hwr, hB⟩ := hrel
        have AA : Aside (gk = l.length - t) := hq
        clear hq
        obtain ⟨wp, rfl⟩ : ∃ wp, wp = wr := ⟨_, rfl⟩
        by_cases hlt2 : t < l.length
        · have t0 : (0 : Int) ≤ (t : Int) := by omega
          have t1 : (t : Int) < (l.length : Int) := by omega
          obtain ⟨b1, o1, x, rfl, hx, FX⟩ := HL.out.1.at_ hlt2
          have hxb := HL.out.2 x (List.mem_of_getElem? hx.out)
          obtain ⟨K, hK⟩ := Int.eq_ofNat_of_zero_le hxb.1
          have hK7 : K < 7 := by omega
          have k0 : (0 : Int) ≤ (K : Int) := by omega
          have k7 : (K : Int) < 7 := by omega
          have htk : madeO stream epoch site n stamp (l.take (t + 1)) = { madeO stream epoch site n stamp (l.take t) with st := up7 (madeO stream epoch site n stamp (l.take t)).st K stamp } := by
            unfold madeO
            rw [List.take_add_one, hx.out]
            show OwnS.mk _ _ _ _ _ (stFold (l.take t ++ [x]) stamp _) _ _ = _
            rw [stFold_snoc, show x.toNat = K by omega]
          have FC : ∀ w', Below w.heap.size w w' → w'.cell? ⟨b1, o1 + t, none⟩ = some (.int .i64 (K : Int)) := fun w' h => by rw [← hK]; exact FX w' h
          have hwd := hwr.drew
          have hBd := hB.drew
          have HT := Lib.hid htk
          clear hK hxb hx FX htk
          go_wp2_with fail
          refine wp_region_p ([(0, true), (1, true), (2, true), (3, true), (4, true), (5, true), (6, true), (7, true), (8, true), (9, false)]) (fun w' => Below w.heap.size w w') (by kernel_rfl) rfl (by kernel_rfl) (by kernel_rfl) (hwd) rfl ?_
          intro KP RP TP hKP hTP hTP'
          simp only [List.append_eq, List.cons_append, List.nil_append, pick, nth]
          go_wp2_with (first
            | (apply SeqP.skip; rfl; simp only [Act.put, List.setIfInBounds_toArray, List.set_cons_zero, List.set_cons_succ])
            | (apply SeqP.call; rfl; rfl; (intro w2 hw; have hw := hTP _ hw; ((have q1 := FC _ hw)); go_simp; exact ⟨rfl, rfl⟩); (intro w2 hw; have hw := hTP _ hw; ((have q1 := FC _ hw)); (first | fail)); simp only [Act.put, List.setIfInBounds_toArray, List.set_cons_zero, List.set_cons_succ])
            | (apply SeqP.pure; rfl; (intro w2 hw; have hw := hTP _ hw; ((have q1 := FC _ hw)); go_simp; with_reducible rfl); simp only [Act.put, List.setIfInBounds_toArray, List.set_cons_zero, List.set_cons_succ])
            | (apply SeqP.split; rfl; rfl; all_goals (intro hc; simp only [hc]; try simp only [beq_iff_eq, decide_eq_true_eq, beq_eq_false_iff_ne, decide_eq_false_iff_not, bne_iff_ne, ne_eq, Bool.not_eq_true', Bool.not_eq_false', Int.not_le, Int.not_lt, bne_eq_false_iff_eq, Bool.or_eq_true, Bool.and_eq_true, Bool.or_eq_false_iff] at hc)))
          have c2 : wp.drew.cell? ⟨w.heap.size, 11 + K, none⟩ = some (.int .i64 ((madeO stream epoch site n stamp (l.take t)).st K)) := by rw [hBd.cell, ownv_st _ hK7]
          have f2 : wp.drew.frozen? ⟨w.heap.size, 11 + K, none⟩ = false := hBd.frozen _
          have B3 := hBd.set (11 + K) (.int .i64 stamp)
          rw [ownv_setSt _ hK7, ← HT.out] at B3
          have hg3 : wp.drew.grownBy (wp.drew.setCell ⟨w.heap.size, 11 + K, none⟩ (.int .i64 stamp)) (some w.heap.size) := only_setCell (World.grownBy.refl wp.drew _) (.inl rfl) _
          have H3 := Lib.hid (And.intro (hwd.trans (Go.Wd.below_grown hg3 (Nat.le_refl _) hwd.size)) B3)
          clear B3 hg3 hBd hB
          generalize wp.drew = wd at *
          apply SeqP.eff
          · rfl
          intro KE hKE
          go_wp2_with fail
          refine hKE _ _ (hTP' _ H3.out.1) ?_
          clear hKE KE
          apply SeqP.nil
          refine hKP _ _ (hTP' _ (H3.out.1)) ?_
          clear hKP hTP hTP'
          go_wp2_with fail
          go_roundg (l.length - (t + 1))
          case measure => have hkk := AA.out; omega
          case rel => exact ⟨t + 1, rfl, by omega, by go_num, H3.out.1, H3.out.2⟩
        · obtain rfl : t = l.length := by omega
          have t1 : ¬ (l.length : Int) < (l.length : Int) := by omega
          rw [List.take_length] at hB
          have H3 := Lib.hid (And.intro hwr hB)
          clear hB hwr
          go_wp2_with fail
          go_ret
          exact ⟨w.heap.size, rfl, Nat.le_refl _, H3.out.2, H3.out.1⟩

def ONewPost (stream : Int) (b : BegS) (S : Slots) (w : World) (e : Ending) (w' : World) : Prop :=
  (wonS b S = true ∧ ∃ h, e = .returned (.tuple #[.pointer (some ⟨h, 0, none⟩), .int .i64 0]) ∧ w.heap.size ≤ h ∧ Blk w' h 116 (ownv (madeO stream b.epoch b.site b.n b.stamp (sitesTo S 7))) ∧ Below w.heap.size w w') ∨
  (wonS b S = false ∧ e = .returned (.tuple #[.pointer none, .int .i64 2]) ∧ Below w.heap.size w w')

set_option maxHeartbeats 8000000 in
theorem onew_any (stream : Int) (B g : Nat) (b : BegS) (S : Slots) (w : World) (H : BalAt w B g b S) (hs0 : 0 ≤ stream) (hs4 : stream < 4) (hn : sitesE b.n = true) (hp0 : 0 ≤ b.site) (hpn : b.site < b.n) (hof : ofE b.epoch b.n = b.site) :
    Calls Try.prog 51 #[.int .i64 stream, .int .i64 b.site, .int .i64 b.n, .pointer (some ⟨g, 0, none⟩)] w fun e w' => ONewPost stream b S w e w' := by
  have hn0 : b.n ≠ 0 := by rcases sites_cases hn with e | e | e | e | e | e <;> omega
  have hn7 : b.n ≤ 7 := by have := sites_cases hn; omega
  obtain ⟨sl, hb, hr⟩ := H
  have HB := Lib.hid (show BalAt w B g b S from ⟨sl, hb, hr⟩)
  have hw := won_any g b S sl w hb hn0
  have HW := Lib.hid hw
  clear hw hb hr
  cases hwon : wonS b S with
  | false =>
    rw [hwon] at HW
    have HO := Lib.hid hwon
    clear hwon
    go_enter Try.func51, Try.ntmps51
    go_wp2_with fail
    refine HW.out.mono ?_
    rintro e w1 ⟨rfl, hb1⟩
    go_wp2_with fail
    go_ret2
    exact .inr ⟨HO.out, rfl, hb1⟩
  | true =>
  rw [hwon] at HW
  have HO := Lib.hid hwon
  clear hwon
  have g1 : ¬ stream < 0 := by omega
  have g2 : ¬ (4 : Int) ≤ stream := by omega
  have g3 : ¬ b.site < 0 := by omega
  have g4 : ¬ b.n ≤ b.site := by omega
  have g5 : ¬ (7 : Int) < b.n := by omega
  have g6 : (ofE b.epoch b.n != b.site) = false := by simpa using hof
  clear hof
  go_enter Try.func51, Try.ntmps51
  go_wp2_with fail
  refine HW.out.mono ?_
  rintro e w1 ⟨rfl, hb1⟩
  have H1 := Lib.hid (HB.out.keep hb1)
  have HW1 := Lib.hid hb1
  clear HW hb1
  go_wp2_with fail
  refine (bepoch_any B g b S w1 H1.out hn0).mono ?_
  rintro e w2 ⟨rfl, rfl⟩
  go_wp2_with fail
  refine (of_any _ _ _).mono ?_
  rintro e w3 ⟨rfl, rfl⟩
  go_wp2_with fail
  refine (bepoch_any B g b S w3 H1.out hn0).mono ?_
  rintro e w4 ⟨rfl, rfl⟩
  have hw0 := HW1.out.alloc HW1.out.size (.cells (ownv ⟨stream, b.epoch, b.site, b.n, lessTo 0, lessTo 0, false, 0⟩).toArray 116)
  have HX := Lib.hid (And.intro hw0 (And.intro (Blk.new w4 116 (ownv ⟨stream, b.epoch, b.site, b.n, lessTo 0, lessTo 0, false, 0⟩)) (H1.out.keep ((Below.refl _ _).alloc (Nat.le_refl _) (.cells (ownv ⟨stream, b.epoch, b.site, b.n, lessTo 0, lessTo 0, false, 0⟩).toArray 116)))))
  have hgw : w.heap.size ≤ w4.heap.size := HW1.out.size
  have hgh : g < w4.heap.size := H1.out.lt
  clear hw0
  go_wp2_with fail
  obtain ⟨h, hh⟩ : ∃ h, w4.heap.size = h := ⟨_, rfl⟩
  rw [hh] at HX hgw hgh ⊢
  go_loopg [53] 7 (fun q i wr => ∃ j : Nat, q = 7 - j ∧ j ≤ 7 ∧ i = .int .i64 j ∧ Below w.heap.size w wr ∧ Blk wr h 116 (ownv ⟨stream, b.epoch, b.site, b.n, lessTo j, lessTo j, false, 0⟩) ∧ BalAt wr B g b S)
  case atStart => exact ⟨0, rfl, by omega, rfl, HX.out.1, HX.out.2.1, HX.out.2.2⟩
  case round =>
    clear HX
    obtain ⟨j, hq, hj, rfl, hwr, hB, hBal⟩ := hrel
    have AA : Aside (gk = 7 - j) := hq
    clear hq
    obtain ⟨wo, rfl⟩ : ∃ wo, wo = wr := ⟨_, rfl⟩
    by_cases hlt : j < 7
    · have j0 : (0 : Int) ≤ (j : Int) := by omega
      have j1 : (j : Int) < 7 := by omega
      have hwd := hwr.drew
      have hBd := hB.drew
      have c1 : wo.drew.cell? ⟨h, 4 + j, none⟩ = some (.int .i64 (lessTo j j)) := by rw [hBd.cell, ownv_has _ hlt]
      have f1 : wo.drew.frozen? ⟨h, 4 + j, none⟩ = false := hBd.frozen _
      have B2 := hBd.set (4 + j) (.int .i64 (-1))
      rw [ownv_setHas _ hlt] at B2
      have c2 : (wo.drew.setCell ⟨h, 4 + j, none⟩ (.int .i64 (-1))).cell? ⟨h, 11 + j, none⟩ = some (.int .i64 (lessTo j j)) := by rw [B2.cell, ownv_st _ hlt]
      have f2 : (wo.drew.setCell ⟨h, 4 + j, none⟩ (.int .i64 (-1))).frozen? ⟨h, 11 + j, none⟩ = false := B2.frozen _
      have B3 := B2.set (11 + j) (.int .i64 (-1))
      rw [ownv_setSt _ hlt] at B3
      simp only [lessTo_up] at B3
      have hg2 : wo.drew.grownBy (wo.drew.setCell ⟨h, 4 + j, none⟩ (.int .i64 (-1))) (some h) := only_setCell (World.grownBy.refl wo.drew _) (.inl rfl) _
      have hg3 : wo.drew.grownBy ((wo.drew.setCell ⟨h, 4 + j, none⟩ (.int .i64 (-1))).setCell ⟨h, 11 + j, none⟩ (.int .i64 (-1))) (some h) := only_setCell hg2 (.inl rfl) _
      have hbd : Below wo.heap.size wo wo.drew := (Below.refl _ _).drew
      have hbn : BalAt ((wo.drew.setCell ⟨h, 4 + j, none⟩ (.int .i64 (-1))).setCell ⟨h, 11 + j, none⟩ (.int .i64 (-1))) B g b S :=
        (hBal.keep hbd).kept (Kept.ofGrown (r2 := none) hg3) (fun e => by have := Option.some.inj e; omega) (by simp) (fun q e => by cases e; exact blk_not hBd (by decide)) (fun q e => by cases e)
      have H2 := Lib.hid (And.intro hwd (hwd.trans (Go.Wd.below_grown hg2 hgw hwd.size)))
      have H3 := Lib.hid (And.intro (hwd.trans (Go.Wd.below_grown hg3 hgw hwd.size)) (And.intro B3 hbn))
      clear B2 B3 hB hwr hg3 hg2 hbd hbn hBal hBd hwd
      go_wp2_with fail
      refine wp_region_p ([(0, true), (1, true), (2, true), (3, true), (4, true), (5, true), (6, true), (8, true), (9, true), (7, false), (10, true), (11, false)]) (fun w' => Below w.heap.size w w') (by kernel_rfl) rfl (by kernel_rfl) (by kernel_rfl) (H2.out.1) rfl ?_
      intro KP RP TP hKP hTP hTP'
      simp only [List.append_eq, List.cons_append, List.nil_append, pick, nth]
      generalize wo.drew = wd at *
      go_wp2_with (first
        | (apply SeqP.skip; rfl; simp only [Act.put, List.setIfInBounds_toArray, List.set_cons_zero, List.set_cons_succ])
        | (apply SeqP.call; rfl; rfl; (intro w2 hw; have hw := hTP _ hw; (skip); go_simp; exact ⟨rfl, rfl⟩); (intro w2 hw; have hw := hTP _ hw; (skip); (first | fail)); simp only [Act.put, List.setIfInBounds_toArray, List.set_cons_zero, List.set_cons_succ])
        | (apply SeqP.pure; rfl; (intro w2 hw; have hw := hTP _ hw; (skip); go_simp; with_reducible rfl); simp only [Act.put, List.setIfInBounds_toArray, List.set_cons_zero, List.set_cons_succ])
        | (apply SeqP.split; rfl; rfl; all_goals (intro hc; simp only [hc]; try simp only [beq_iff_eq, decide_eq_true_eq, beq_eq_false_iff_ne, decide_eq_false_iff_not, bne_iff_ne, ne_eq, Bool.not_eq_true', Bool.not_eq_false', Int.not_le, Int.not_lt, bne_eq_false_iff_eq, Bool.or_eq_true, Bool.and_eq_true, Bool.or_eq_false_iff] at hc)))
      apply SeqP.eff
      · rfl
      intro KE hKE
      go_wp2_with fail
      refine hKE _ _ (hTP' _ H2.out.2) ?_
      clear hKE KE
      go_wp2_with (first
        | (apply SeqP.skip; rfl; simp only [Act.put, List.setIfInBounds_toArray, List.set_cons_zero, List.set_cons_succ])
        | (apply SeqP.call; rfl; rfl; (intro w2 hw; have hw := hTP _ hw; (skip); go_simp; exact ⟨rfl, rfl⟩); (intro w2 hw; have hw := hTP _ hw; (skip); (first | fail)); simp only [Act.put, List.setIfInBounds_toArray, List.set_cons_zero, List.set_cons_succ])
        | (apply SeqP.pure; rfl; (intro w2 hw; have hw := hTP _ hw; (skip); go_simp; with_reducible rfl); simp only [Act.put, List.setIfInBounds_toArray, List.set_cons_zero, List.set_cons_succ])
        | (apply SeqP.split; rfl; rfl; all_goals (intro hc; simp only [hc]; try simp only [beq_iff_eq, decide_eq_true_eq, beq_eq_false_iff_ne, decide_eq_false_iff_not, bne_iff_ne, ne_eq, Bool.not_eq_true', Bool.not_eq_false', Int.not_le, Int.not_lt, bne_eq_false_iff_eq, Bool.or_eq_true, Bool.and_eq_true, Bool.or_eq_false_iff] at hc)))
      apply SeqP.eff
      · rfl
      intro KE hKE
      go_wp2_with fail
      refine hKE _ _ (hTP' _ H3.out.1) ?_
      clear hKE KE
      apply SeqP.nil
      refine hKP _ _ (hTP' _ (H3.out.1)) ?_
      clear hKP hTP hTP'
      go_wp2_with fail
      go_roundg (7 - (j + 1))
      case measure => have hkk := AA.out; omega
      case rel => exact ⟨j + 1, rfl, by omega, by go_num, H3.out.1, H3.out.2.1, H3.out.2.2⟩
    · obtain rfl : j = 7 := by omega
      rw [own_less] at hB
      obtain ⟨slo, hbo, _⟩ := id hBal
      have hbs := bsites_any g b S slo wo hbo hn0
      have HBS := Lib.hid hbs
      have H3 := Lib.hid (And.intro hwr (And.intro hB hBal))
      clear hB hwr hBal hbo hbs
      go_wp2_with fail
      refine HBS.out.mono ?_
      clear HBS
      rintro e w5 ⟨v5, rfl, hR5, hb5⟩
      obtain ⟨A, c, rfl, _, _, hNu⟩ := RowI.form hR5
      have H5 := Lib.hid (show Below w.heap.size w w5 ∧ Blk w5 h 116 (ownv (madeO stream b.epoch b.site b.n b.stamp [])) ∧ BalAt w5 B g b S ∧ RowI w5 wo.heap.size (.slice A (sitesTo S 7).length c) (sitesTo S 7) from
        ⟨below_trans H3.out.1 hb5 H3.out.1.size, H3.out.2.1.keep hb5, H3.out.2.2.keep hb5, hR5⟩)
      have hsi := fun i (hi : i ∈ sitesTo S 7) => sites_in hi
      obtain ⟨L, hL⟩ : ∃ L, sitesTo S 7 = L := ⟨_, rfl⟩
      have HO2 := Lib.hid (And.intro HO.out hL)
      rw [hL] at H5 hsi ⊢
      have HS := Lib.hid hsi
      have hl7 : L.length ≤ 7 := by
        rw [← hL, sitesTo_len]
        exact listTo_len S 7
      clear hR5 hb5 H3 hNu hsi hL
      go_wp2_with fail
      go_loopg [70] L.length (fun q i wr => ∃ t : Nat, q = L.length - t ∧ t ≤ L.length ∧ i = .int .i64 t ∧ Below w.heap.size w wr ∧ Blk wr h 116 (ownv (madeO stream b.epoch b.site b.n b.stamp (L.take t))) ∧ BalAt wr B g b S ∧ RowI wr wo.heap.size (.slice A L.length c) L)
      case atStart => exact ⟨0, rfl, by omega, rfl, H5.out.1, H5.out.2.1, H5.out.2.2.1, H5.out.2.2.2⟩
      case round =>
        clear H5 AA
        obtain ⟨t, hq, ht, rfl, hwr, hB, hBal, hRow⟩ := hrel
        have AA : Aside (gk = L.length - t) := hq
        clear hq
        obtain ⟨wp, rfl⟩ : ∃ wp, wp = wr := ⟨_, rfl⟩
        by_cases hlt2 : t < L.length
        · have t0 : (0 : Int) ≤ (t : Int) := by omega
          have t1 : (t : Int) < (L.length : Int) := by omega
          obtain ⟨A', c', he, _, _, hNu⟩ := RowI.form hRow
          cases he
          obtain ⟨b1, o1, x, rfl, hx, FX⟩ := hNu.at_ hlt2
          have hxb := HS.out x (List.mem_of_getElem? hx.out)
          obtain ⟨K, hK⟩ := Int.eq_ofNat_of_zero_le hxb.1
          have hK7 : K < 7 := by omega
          have k0 : (0 : Int) ≤ (K : Int) := by omega
          have k7 : (K : Int) < 7 := by omega
          have htk : madeO stream b.epoch b.site b.n b.stamp (L.take (t + 1)) = { madeO stream b.epoch b.site b.n b.stamp (L.take t) with st := up7 (madeO stream b.epoch b.site b.n b.stamp (L.take t)).st K b.stamp } := by
            unfold madeO
            rw [List.take_add_one, hx.out]
            show OwnS.mk _ _ _ _ _ (stFold (L.take t ++ [x]) b.stamp _) _ _ = _
            rw [stFold_snoc, show x.toNat = K by omega]
          have cx : wp.cell? ⟨b1, o1 + t, none⟩ = some (.int .i64 (K : Int)) := by rw [← hK]; exact FX wp (Below.refl _ _)
          have hbd : Below wp.heap.size wp wp.drew := (Below.refl _ _).drew
          have hwd := hwr.drew
          have hBd := hB.drew
          have hBald := hBal.keep hbd
          have hRd := hRow.keep hbd
          have HT := Lib.hid htk
          clear hK hxb hx FX htk hB hBal hRow hbd hNu
          go_wp2_with fail
          refine wp_region_p ([(0, true), (1, true), (2, true), (4, true), (5, true), (3, false), (6, true), (7, false)]) (fun w' => Below w.heap.size w w') (by kernel_rfl) rfl (by kernel_rfl) (by kernel_rfl) (hwd) rfl ?_
          intro KP RP TP hKP hTP hTP'
          simp only [List.append_eq, List.cons_append, List.nil_append, pick, nth]
          have c2 : wp.drew.cell? ⟨h, 11 + K, none⟩ = some (.int .i64 ((madeO stream b.epoch b.site b.n b.stamp (L.take t)).st K)) := by rw [hBd.cell, ownv_st _ hK7]
          have f2 : wp.drew.frozen? ⟨h, 11 + K, none⟩ = false := hBd.frozen _
          have B3 := hBd.set (11 + K) (.int .i64 b.stamp)
          rw [ownv_setSt _ hK7, ← HT.out] at B3
          have hg3 : wp.drew.grownBy (wp.drew.setCell ⟨h, 11 + K, none⟩ (.int .i64 b.stamp)) (some h) := only_setCell (World.grownBy.refl wp.drew _) (.inl rfl) _
          have hbn : BalAt (wp.drew.setCell ⟨h, 11 + K, none⟩ (.int .i64 b.stamp)) B g b S := hBald.kept (Kept.ofGrown (r2 := none) hg3) (fun e => by have := Option.some.inj e; omega) (by simp) (fun q e => by cases e; exact blk_not hBd (by decide)) (fun q e => by cases e)
          have hrn : RowI (wp.drew.setCell ⟨h, 11 + K, none⟩ (.int .i64 b.stamp)) wo.heap.size (.slice (some ⟨b1, o1, none⟩) L.length c) L := own_beside hRd hg3 (blk_not hBd (by decide))
          have H3 := Lib.hid (And.intro (hwd.trans (Go.Wd.below_grown hg3 hgw hwd.size)) (And.intro B3 (And.intro hbn hrn)))
          have H4 := Lib.hid (And.intro hwd hBald)
          clear B3 hg3 hBd hbn hrn hBald hRd hwd cx
          generalize wp.drew = wd at *
          go_wp2_with (first
            | (apply SeqP.skip; rfl; simp only [Act.put, List.setIfInBounds_toArray, List.set_cons_zero, List.set_cons_succ])
            | (apply SeqP.call; rfl; rfl; (intro w2 hw; have hw := hTP _ hw; (skip); go_simp; exact ⟨rfl, rfl⟩); (intro w2 hw; have hw := hTP _ hw; (skip); (first | fail)); simp only [Act.put, List.setIfInBounds_toArray, List.set_cons_zero, List.set_cons_succ])
            | (apply SeqP.pure; rfl; (intro w2 hw; have hw := hTP _ hw; (skip); go_simp; with_reducible rfl); simp only [Act.put, List.setIfInBounds_toArray, List.set_cons_zero, List.set_cons_succ])
            | (apply SeqP.split; rfl; rfl; all_goals (intro hc; simp only [hc]; try simp only [beq_iff_eq, decide_eq_true_eq, beq_eq_false_iff_ne, decide_eq_false_iff_not, bne_iff_ne, ne_eq, Bool.not_eq_true', Bool.not_eq_false', Int.not_le, Int.not_lt, bne_eq_false_iff_eq, Bool.or_eq_true, Bool.and_eq_true, Bool.or_eq_false_iff] at hc)))
          apply SeqP.eff
          · rfl
          intro KE hKE
          go_wp2_with fail
          refine (bstamp_any B g b S wd H4.out.2 hn0).mono ?_
          rintro e w6 ⟨rfl, rfl⟩
          refine hKE _ _ (hTP' _ H4.out.1) ?_
          clear hKE KE
          go_wp2_with (first
            | (apply SeqP.skip; rfl; simp only [Act.put, List.setIfInBounds_toArray, List.set_cons_zero, List.set_cons_succ])
            | (apply SeqP.call; rfl; rfl; (intro w2 hw; have hw := hTP _ hw; (skip); go_simp; exact ⟨rfl, rfl⟩); (intro w2 hw; have hw := hTP _ hw; (skip); (first | fail)); simp only [Act.put, List.setIfInBounds_toArray, List.set_cons_zero, List.set_cons_succ])
            | (apply SeqP.pure; rfl; (intro w2 hw; have hw := hTP _ hw; (skip); go_simp; with_reducible rfl); simp only [Act.put, List.setIfInBounds_toArray, List.set_cons_zero, List.set_cons_succ])
            | (apply SeqP.split; rfl; rfl; all_goals (intro hc; simp only [hc]; try simp only [beq_iff_eq, decide_eq_true_eq, beq_eq_false_iff_ne, decide_eq_false_iff_not, bne_iff_ne, ne_eq, Bool.not_eq_true', Bool.not_eq_false', Int.not_le, Int.not_lt, bne_eq_false_iff_eq, Bool.or_eq_true, Bool.and_eq_true, Bool.or_eq_false_iff] at hc)))
          apply SeqP.eff
          · rfl
          intro KE hKE
          go_wp2_with fail
          refine hKE _ _ (hTP' _ H3.out.1) ?_
          clear hKE KE
          apply SeqP.nil
          refine hKP _ _ (hTP' _ (H3.out.1)) ?_
          clear hKP hTP hTP'
          go_wp2_with fail
          go_roundg (L.length - (t + 1))
          case measure => have hkk := AA.out; omega
          case rel => exact ⟨t + 1, rfl, by omega, by go_num, H3.out.1, H3.out.2.1, H3.out.2.2.1, H3.out.2.2.2⟩
        · obtain rfl : t = L.length := by omega
          have t1 : ¬ (L.length : Int) < (L.length : Int) := by omega
          rw [List.take_length] at hB
          have H3 := Lib.hid (And.intro hwr hB)
          clear hB hwr hRow hBal
          go_wp2_with fail
          go_ret2
          refine .inl ⟨HO2.out.1, h, rfl, hgw, ?_, H3.out.1⟩
          rw [HO2.out.2]
          exact H3.out.2
end Go.Proofs.Ytdphfhenjndkkaa

set_option linter.unusedSimpArgs false
set_option linter.unusedVariables false
set_option maxRecDepth 100000
namespace Go.Proofs.Ytdphfhenjndkkaa
open Go Go.RowKit Go.Sq Go.Wd Go.Arch

/-- What owners begin with: sizes, the site, the stamp, who has promised. -/
structure MkS where
  sz : Int
  si : Int
  stamp : Int
  who : List Int
def mkN (x : MkS) : Int := 2 + x.sz % 6
def mkSite (x : MkS) : Int := x.si % mkN x
def mkEp (x : MkS) : Int := (nextE 4 (mkSite x) (mkN x)).1
def mkB (x : MkS) : BegS := ⟨1, mkEp x, mkSite x, mkN x, x.stamp⟩
def mkReg (x : MkS) : RegS := ⟨mkEp x, 0, [], 0⟩
def mkMail (x : MkS) (k : Int) : MailS := ⟨2, k % mkN x, mkSite x, 1, mkEp x, 0, 0, 0, x.stamp, []⟩
def mkS0 (x : MkS) : Slots := put7 no7 (mkSite x).toNat (mkReg x)
def mkTo (x : MkS) (j : Nat) : Slots := (x.who.take j).foldl (fun S k => addS (mkB x) S (mkMail x k)) (mkS0 x)
theorem mkTo_next {x : MkS} {j : Nat} {k : Int} (h : x.who[j]? = some k) : mkTo x (j + 1) = addS (mkB x) (mkTo x j) (mkMail x k) := by
  unfold mkTo
  rw [List.take_add_one, h]
  show List.foldl _ _ (x.who.take j ++ [k]) = _
  rw [List.foldl_append]
  rfl
def mkSl (x : MkS) : Slots := mkTo x (min x.who.length 20)
/-- The owner that is made. -/
def mkO (x : MkS) : OwnS := madeO 1 (mkEp x) (mkSite x) (mkN x) x.stamp (sitesTo (mkSl x) 7)
def mkWon (x : MkS) : Bool := wonS (mkB x) (mkSl x)
def FineX (x : MkS) : Prop := (0 ≤ x.sz ∧ x.sz ≤ 255) ∧ (0 ≤ x.si ∧ x.si ≤ 255) ∧ (0 ≤ x.stamp ∧ x.stamp ≤ 65535) ∧ ∀ k ∈ x.who, 0 ≤ k ∧ k ≤ 255
theorem mk_n {x : MkS} (h : FineX x) : sitesE (mkN x) = true ∧ 0 ≤ mkSite x ∧ mkSite x < mkN x := by
  have h1 := Int.emod_nonneg x.sz (show (6 : Int) ≠ 0 by decide)
  have h2 := Int.emod_lt_of_pos x.sz (show (0 : Int) < 6 by decide)
  have hn : 2 ≤ mkN x ∧ mkN x ≤ 7 := by unfold mkN; omega
  refine ⟨by unfold sitesE; simp only [decide_eq_true_eq]; exact hn, Int.emod_nonneg _ (by omega), Int.emod_lt_of_pos _ (by omega)⟩
theorem next_four {s n : Int} (h : sitesE n = true) (h0 : 0 ≤ s) (hn : s < n) : nextE 4 s n = ((nextE 4 s n).1, 0) ∧ ofE (nextE 4 s n).1 n = s ∧ 5 ≤ (nextE 4 s n).1 ∧ (nextE 4 s n).1 ≤ 11 := by
  obtain ⟨k, rfl⟩ := Int.eq_ofNat_of_zero_le h0
  rcases sites_cases h with rfl | rfl | rfl | rfl | rfl | rfl
  all_goals
    have hk : k < 7 := by omega
    rcases cases7 hk with rfl | rfl | rfl | rfl | rfl | rfl | rfl
    all_goals first | (exfalso; omega) | decide
theorem mk_ok {x : MkS} (h : FineX x) : newOk (mkB x) (mkReg x) := by
  obtain ⟨h1, h2, h3⟩ := mk_n h
  obtain ⟨n1, n2, n3, n4⟩ := next_four h1 h2 h3
  have hm : mayR (mkReg x) = true := (mayR_iff _).2 ⟨⟨Int.le_refl _, by show 0 ≤ mkEp x; unfold mkEp; omega, by show mkEp x ≤ 1048576; unfold mkEp; omega⟩, by show okLog [] 0 = true; decide, Int.le_refl _, by show (0 : Int) ≤ (([] : List Ent).length : Int); decide⟩
  exact ⟨by show (0 : Int) ≤ 1; decide, by show (1 : Int) < 4; decide, h1, h2, n2, by show mkEp x ≤ 1048576; unfold mkEp; omega, hm, rfl, by show (0 : Int) < mkEp x; unfold mkEp; omega⟩
theorem mk_fine {x : MkS} (h : FineX x) : FineO (mkO x) := mk_n h
def begv20 (x : MkS) (s : SlcE) : List Value := [.int .u8 x.sz, .int .u8 x.si, .int .u16 x.stamp, .slice s.1 s.2.1 s.2.2]
theorem beg20_info : (Try.prog.info? 68).map (·.size) = some 4 := by kernel_rfl
def MadePost (x : MkS) (w : World) (e : Ending) (w' : World) : Prop :=
  (mkWon x = true ∧ ∃ g h, e = .returned (.tuple #[.pointer (some ⟨g, 0, none⟩), .pointer (some ⟨h, 0, none⟩)]) ∧ w.heap.size ≤ g ∧ w.heap.size ≤ h ∧ Blk w' g 116 (ownv (mkO x)) ∧ Blk w' h 78 (ownv (mkO x)) ∧ Below w.heap.size w w') ∨
  (mkWon x = false ∧ e = .returned (.tuple #[.pointer none, .pointer none]) ∧ Below w.heap.size w w')

/-- The ballot, and the box. -/
def MadeI (w wr : World) (g : Nat) (x : MkS) (s : SlcE) (S : Slots) : Prop :=
  Below w.heap.size w wr ∧ BalAt wr w.heap.size g (mkB x) S ∧ Blk wr w.heap.size 68 (begv20 x s) ∧ w.heap.size ≤ g ∧ g ≠ w.heap.size
section
variable {w wr wr' : World} {g : Nat} {x : MkS} {s : SlcE} {S : Slots}
theorem MadeI.keep (H : MadeI w wr g x s S) (hb : Below wr.heap.size wr wr') : MadeI w wr' g x s S := by
  obtain ⟨h1, h2, h3, h4⟩ := H
  exact ⟨below_trans h1 hb h1.size, h2.keep hb, h3.keep hb, h4⟩
theorem MadeI.add {m : MailV} {e : Ending} (H : MadeI w wr g x s S) (hA : AddPost (mkB x) S g w.heap.size m.m wr e wr') : e = .returned (.bool (decide (addOk (mkB x) S m.m))) ∧ MadeI w wr' g x s (addS (mkB x) S m.m) := by
  obtain ⟨he, hB, hK⟩ := hA
  obtain ⟨h1, ⟨sl, hb, _⟩, h4, h5, h7⟩ := H
  exact ⟨he, h1.trans (hK.below (B := w.heap.size) (fun k e => by cases e; exact h5) (fun k e => by cases e) h1.size), hB, hK.blk h4 (fun e => h7 (Option.some.inj e).symm) (by simp), h5, h7⟩
end

theorem mk_new (x : MkS) (n : Int) (hn : mkN x = n) (w : World) : Calls Try.prog 50 #[.int .i64 1, .int .i64 (mkEp x), .int .i64 (mkSite x), .int .i64 n, .int .i64 x.stamp, .agg #[.int .i64 (mkEp x), .int .i64 0, .slice none 0 0, .int .i64 0]] w fun e w' => NewPost (mkB x) (mkReg x) w e w' := by
  subst hn
  exact new_any (mkB x) (mkReg x) no0 w LogAt.nil (by simp [mkReg])

theorem mk_add (x : MkS) (n : Int) (hn : mkN x = n) (B g : Nat) (S : Slots) (k : Int) (w : World) (H : BalAt w B g (mkB x) S) (hB : B ≤ w.heap.size) (hs : sitesE n = true) :
    Calls Try.prog 52 #[.pointer (some ⟨g, 0, none⟩), .agg #[.int .i64 2, .int .i64 (k % n), .int .i64 (mkSite x), .int .i64 1, .int .i64 (mkEp x), .int .i64 0, .int .i64 0, .int .i64 0, .int .i64 x.stamp, .slice none 0 0, .int .i64 0, .int .i64 0, .int .i64 0, .int .i64 0, .int .i64 0, .int .i64 0, .int .i64 0, .int .i64 0]] w fun e w' => AddPost (mkB x) S g B (mkMail x k) w e w' := by
  subst hn
  exact add_any B g (mkB x) S ⟨mkMail x k, no0, (0, 0, 0, 0, 0), (0, 0, 0)⟩ w H hB hs LogAt.nil (by simp [mkMail])

theorem mk_onew (x : MkS) (n : Int) (hn : mkN x = n) (hX : FineX x) (B g : Nat) (S : Slots) (w : World) (H : BalAt w B g (mkB x) S) :
    Calls Try.prog 51 #[.int .i64 1, .int .i64 (mkSite x), .int .i64 n, .pointer (some ⟨g, 0, none⟩)] w fun e w' => ONewPost 1 (mkB x) S w e w' := by
  obtain ⟨h1, h2, h3⟩ := mk_n hX
  obtain ⟨n1, n2, n3, n4⟩ := next_four h1 h2 h3
  subst hn
  exact onew_any 1 B g (mkB x) S w H (by decide) (by decide) h1 h2 h3 n2

set_option maxHeartbeats 8000000 in
theorem made_any (x : MkS) (A : Option Addr) (c : Nat) (w : World) (hX : FineX x) (hl : Nums w w.heap.size A .u8 x.who) (hll : x.who.length ≤ 9223372036854775807) :
    Calls Try.prog 24 #[.agg (begv20 x (A, x.who.length, c)).toArray] w fun e w' => MadePost x w e w' := by
  obtain ⟨hsn, hs0, hsl⟩ := mk_n hX
  obtain ⟨n1, n2, n3, n4⟩ := next_four hsn hs0 hsl
  have hok := mk_ok hX
  have hw0 : Below w.heap.size w (w.alloc (.cells (begv20 x (A, x.who.length, c)).toArray 68)) := (Below.refl _ _).alloc (Nat.le_refl _) _
  have H0 := Lib.hid (And.intro hw0 (Blk.new w 68 (begv20 x (A, x.who.length, c))))
  have FC : ∀ w', Blk w' w.heap.size 68 (begv20 x (A, x.who.length, c)) → w'.cell? ⟨w.heap.size, 0, none⟩ = some (.int .u8 x.sz) ∧ w'.cell? ⟨w.heap.size, 1, none⟩ = some (.int .u8 x.si) ∧ w'.cell? ⟨w.heap.size, 2, none⟩ = some (.int .u16 x.stamp) ∧ w'.cell? ⟨w.heap.size, 3, none⟩ = some (.slice A x.who.length c) := fun w' h => ⟨h.cell 0, h.cell 1, h.cell 2, h.cell 3⟩
  have HX := Lib.hid hX
  obtain ⟨⟨z0, z1⟩, ⟨y0, y1⟩, ⟨t0, t1⟩, hwho⟩ := hX
  have zt : Int.tmod x.sz 6 = x.sz % 6 := Int.tmod_eq_emod_of_nonneg z0
  have hzr : 0 ≤ x.sz % 6 ∧ x.sz % 6 < 6 := ⟨Int.emod_nonneg _ (by decide), Int.emod_lt_of_pos _ (by decide)⟩
  have hzr0 := hzr.1
  have hzr1 := hzr.2
  obtain ⟨n, hn⟩ : ∃ n, mkN x = n := ⟨_, rfl⟩
  have hn' : 2 + x.sz % 6 = n := hn
  have hsl' := hsl
  rw [hn] at hsl' hsn n1 n2 n3 n4
  have hnb : 2 ≤ n ∧ n ≤ 7 := by have := sites_cases hsn; omega
  have hnp := hnb.1
  have hnq := hnb.2
  have yt : Int.tmod x.si n = x.si % n := Int.tmod_eq_emod_of_nonneg y0
  have hsite : x.si % n = mkSite x := by unfold mkSite; rw [hn]
  have hnz : ¬ n = 0 := by omega
  have hnz' : (n == 0) = false := by rw [beq_eq_false_iff_ne]; exact hnz
  have HW := Lib.hid (And.intro hl hwho)
  have HN := Lib.hid (And.intro hn (And.intro hok (And.intro hsn (And.intro n1 n2))))
  obtain ⟨f0, f1, f2, f3⟩ := FC _ H0.out.2
  clear hl hwho hok hsn n1 n2 hn hsl hw0 hzr hnb
  have w1 : IntKind.i64.wrap x.sz = x.sz := IntWalk.i64_in _ (by omega)
  have w2 : IntKind.i64.wrap x.si = x.si := IntWalk.i64_in _ (by omega)
  have w3 : IntKind.i64.wrap x.stamp = x.stamp := IntWalk.i64_in _ (by omega)
  go_enter Try.func24, Try.ntmps24
  go_wp2_with fail
  refine (next_any 4 (mkSite x) n _).mono ?_
  rintro e w1 ⟨rfl, rfl⟩
  have e1 : (nextE 4 (mkSite x) n).1 = mkEp x := by unfold mkEp; rw [HN.out.1]
  have e2 : (nextE 4 (mkSite x) n).2 = 0 := congrArg Prod.snd HN.out.2.2.2.1
  rw [e1, e2]
  clear e1 e2
  go_wp2_with fail
  refine (mk_new x n HN.out.1 _).mono ?_
  rintro e w2 (⟨_, g, rfl, hgw, hB, hb2⟩ | ⟨hno, _⟩)
  case inr => exact absurd HN.out.2.1 hno
  have H3 := Lib.hid (show MadeI w w2 g x (A, x.who.length, c) (mkTo x 0) from by
    have z2 := H0.out.1.size
    have hlt := H0.out.2.lt
    exact ⟨below_trans H0.out.1 hb2 z2, hB.base z2, H0.out.2.keep hb2, by omega, by omega⟩)
  clear hb2 hB hgw H0 f0 f1 f2 f3
  go_wp2_with fail
  go_loopg [10] 20 (fun q i wr => ∃ j : Nat, q = 20 - j ∧ j ≤ 20 ∧ j ≤ x.who.length ∧ i = .int .i64 j ∧ MadeI w wr g x (A, x.who.length, c) (mkTo x j))
  case atStart => exact ⟨0, rfl, by omega, by omega, rfl, H3.out⟩
  case round =>
    clear H3
    obtain ⟨j, hq, hj, hjl, rfl, hI⟩ := hrel
    have AA : Aside (gk = 20 - j) := hq
    clear hq
    obtain ⟨wo, rfl⟩ : ∃ wo, wo = wr := ⟨_, rfl⟩
    have HI := Lib.hid hI
    clear hI
    obtain ⟨f0, f1, f2, f3⟩ := FC _ HI.out.2.2.1
    by_cases hlt : j < x.who.length ∧ j < 20
    · obtain ⟨hlt, hl20⟩ := hlt
      have j0 : (0 : Int) ≤ (j : Int) := by omega
      have j1 : (j : Int) < (x.who.length : Int) := by omega
      have j2 : (j : Int) < 20 := by omega
      obtain ⟨b1, o1, k, rfl, hk, FU⟩ := HW.out.1.at_ hlt
      have hkr := HW.out.2 k (List.mem_of_getElem? hk.out)
      have k0 := hkr.1
      have k1 := hkr.2
      have wk : IntKind.i64.wrap k = k := IntWalk.i64_in _ (by omega)
      have kt : Int.tmod k n = k % n := Int.tmod_eq_emod_of_nonneg k0
      have HFU := Lib.hid FU
      clear FU hkr
      have HI' := Lib.hid (HI.out.keep (Below.refl _ _).drew)
      clear HI
      go_wp2_with fail
      refine wp_region_p ([(0, true), (1, true), (2, true), (3, true), (4, true), (5, true), (6, true), (7, true), (8, true), (9, true), (10, true), (11, true), (12, true), (13, true), (14, true), (15, false)]) (fun w' => Below w.heap.size w w' ∧ Blk w' w.heap.size 68 (begv20 x (some ⟨b1, o1, none⟩, x.who.length, c))) (by kernel_rfl) rfl (by kernel_rfl) (by kernel_rfl) (And.intro HI'.out.1 HI'.out.2.2.1) rfl ?_
      intro KP RP TP hKP hTP hTP'
      simp only [List.append_eq, List.cons_append, List.nil_append, pick, nth]
      generalize wo.drew = wd at *
      clear f0 f1 f2 f3
      go_wp2_with (first
        | (apply SeqP.skip; rfl; simp only [Act.put, List.setIfInBounds_toArray, List.set_cons_zero, List.set_cons_succ])
        | (apply SeqP.call; rfl; rfl; (intro w2 hw; have hw := hTP _ hw; (obtain ⟨f0, f1, f2, f3⟩ := FC w2 hw.2; have f4 := HFU.out w2 hw.1); go_simp; exact ⟨rfl, rfl⟩); (intro w2 hw; have hw := hTP _ hw; (obtain ⟨f0, f1, f2, f3⟩ := FC w2 hw.2; have f4 := HFU.out w2 hw.1); (first | fail)); simp only [Act.put, List.setIfInBounds_toArray, List.set_cons_zero, List.set_cons_succ])
        | (apply SeqP.pure; rfl; (intro w2 hw; have hw := hTP _ hw; (obtain ⟨f0, f1, f2, f3⟩ := FC w2 hw.2; have f4 := HFU.out w2 hw.1); go_simp; with_reducible rfl); simp only [Act.put, List.setIfInBounds_toArray, List.set_cons_zero, List.set_cons_succ])
        | (apply SeqP.split; rfl; rfl; all_goals (intro hc; simp only [hc]; try simp only [beq_iff_eq, decide_eq_true_eq, beq_eq_false_iff_ne, decide_eq_false_iff_not, bne_iff_ne, ne_eq, Bool.not_eq_true', Bool.not_eq_false', Int.not_le, Int.not_lt, bne_eq_false_iff_eq, Bool.or_eq_true, Bool.and_eq_true, Bool.or_eq_false_iff] at hc)))
      apply SeqP.eff
      · rfl
      intro KE hKE
      go_wp2_with fail
      refine (mk_add x n HN.out.1 w.heap.size g (mkTo x j) k wd HI'.out.2.1 HI'.out.1.size HN.out.2.2.1).mono ?_
      rintro e w4 hA4
      obtain ⟨rfl, hI4⟩ := HI'.out.add (m := ⟨mkMail x k, no0, (0, 0, 0, 0, 0), (0, 0, 0)⟩) hA4
      have hI5 : MadeI w w4 g x (some ⟨b1, o1, none⟩, x.who.length, c) (mkTo x (j + 1)) := by
        rw [mkTo_next hk.out]; exact hI4
      have HI4 := Lib.hid hI5
      clear hI4 hI5 hA4 HI'
      refine hKE _ _ (hTP' _ (And.intro HI4.out.1 HI4.out.2.2.1)) ?_
      clear hKE KE
      apply SeqP.nil
      refine hKP _ _ (hTP' _ (And.intro HI4.out.1 HI4.out.2.2.1)) ?_
      clear hKP hTP hTP'
      go_wp2_with fail
      go_roundg (20 - (j + 1))
      case measure => have hkk := AA.out; omega
      case rel => exact ⟨j + 1, rfl, by omega, by omega, by go_num, HI4.out⟩
    · have HL := Lib.hid (show mkTo x j = mkSl x from by unfold mkSl; congr 1; omega)
      by_cases hlt2 : j < x.who.length
      case pos =>
        obtain rfl : j = 20 := by omega
        have j1 : (20 : Int) < (x.who.length : Int) := by omega
        have j2 : ¬ (20 : Int) < 20 := by omega
        go_wp2_with fail
        refine (mk_onew x n HN.out.1 HX.out w.heap.size g (mkTo x 20) wo HI.out.2.1).mono ?_
        rintro e w5 (⟨hwon, h, rfl, hgh, hBo, hb5⟩ | ⟨hwon, rfl, hb5⟩)
        case inr =>
          have HZ := Lib.hid (And.intro hwon (below_trans HI.out.1 hb5 HI.out.1.size))
          clear hwon hb5
          go_wp2_with fail
          go_ret2
          exact .inr ⟨by unfold mkWon; rw [← HL.out]; exact HZ.out.1, rfl, HZ.out.2⟩
        have hd5 : Below w5.heap.size w5 w5.drew := (Below.refl _ _).drew
        have HI5 := Lib.hid ((HI.out.keep hb5).keep hd5)
        have H5 := Lib.hid (And.intro hwon (And.intro (hBo.keep hd5) (show w.heap.size ≤ h from by have := HI.out.1.size; omega)))
        clear hwon hb5 hgh hBo hd5 HI f0 f1 f2 f3
        go_wp2_with fail
        refine wp_region_p ([(0, true), (1, true), (2, true), (3, true), (4, true), (5, true), (6, true), (7, true), (8, false), (9, false), (10, true), (11, true)]) (fun w' => Below w.heap.size w w' ∧ Blk w' w.heap.size 68 (begv20 x (A, x.who.length, c))) (by kernel_rfl) rfl (by kernel_rfl) (by kernel_rfl) (And.intro HI5.out.1 HI5.out.2.2.1) rfl ?_
        intro KP RP TP hKP hTP hTP'
        simp only [List.append_eq, List.cons_append, List.nil_append, pick, nth]
        generalize w5.drew = wd at *
        go_wp2_with (first
          | (apply SeqP.skip; rfl; simp only [Act.put, List.setIfInBounds_toArray, List.set_cons_zero, List.set_cons_succ])
          | (apply SeqP.call; rfl; rfl; (intro w2 hw; have hw := hTP _ hw; (obtain ⟨f0, f1, f2, f3⟩ := FC w2 hw.2); go_simp; exact ⟨rfl, rfl⟩); (intro w2 hw; have hw := hTP _ hw; (obtain ⟨f0, f1, f2, f3⟩ := FC w2 hw.2); (first | fail)); simp only [Act.put, List.setIfInBounds_toArray, List.set_cons_zero, List.set_cons_succ])
          | (apply SeqP.pure; rfl; (intro w2 hw; have hw := hTP _ hw; (obtain ⟨f0, f1, f2, f3⟩ := FC w2 hw.2); go_simp; with_reducible rfl); simp only [Act.put, List.setIfInBounds_toArray, List.set_cons_zero, List.set_cons_succ])
          | (apply SeqP.split; rfl; rfl; all_goals (intro hc; simp only [hc]; try simp only [beq_iff_eq, decide_eq_true_eq, beq_eq_false_iff_ne, decide_eq_false_iff_not, bne_iff_ne, ne_eq, Bool.not_eq_true', Bool.not_eq_false', Int.not_le, Int.not_lt, bne_eq_false_iff_eq, Bool.or_eq_true, Bool.and_eq_true, Bool.or_eq_false_iff] at hc)))
        apply SeqP.eff
        · rfl
        intro KE hKE
        go_wp2_with fail
        obtain ⟨sl5, hb5, _⟩ := HI5.out.2.1
        refine (bsites_any g (mkB x) (mkTo x 20) sl5 wd hb5 (by show mkN x ≠ 0; rw [HN.out.1]; exact hnz)).mono ?_
        clear hb5
        rintro e w6 ⟨v6, rfl, hR6, hb6⟩
        obtain ⟨A6, c6, rfl, _, _, hNu⟩ := RowI.form hR6
        have HI6 := Lib.hid (HI5.out.keep hb6)
        have H6 := Lib.hid (And.intro H5.out.1 (And.intro (H5.out.2.1.keep hb6) (And.intro H5.out.2.2 hNu)))
        clear hR6 hb6 hNu HI5 H5
        refine hKE _ _ (hTP' _ (And.intro HI6.out.1 HI6.out.2.2.1)) ?_
        clear hKE KE
        go_wp2_with (first
          | (apply SeqP.skip; rfl; simp only [Act.put, List.setIfInBounds_toArray, List.set_cons_zero, List.set_cons_succ])
          | (apply SeqP.call; rfl; rfl; (intro w2 hw; have hw := hTP _ hw; (skip); go_simp; exact ⟨rfl, rfl⟩); (intro w2 hw; have hw := hTP _ hw; (skip); (first | fail)); simp only [Act.put, List.setIfInBounds_toArray, List.set_cons_zero, List.set_cons_succ])
          | (apply SeqP.pure; rfl; (intro w2 hw; have hw := hTP _ hw; (skip); go_simp; with_reducible rfl); simp only [Act.put, List.setIfInBounds_toArray, List.set_cons_zero, List.set_cons_succ])
          | (apply SeqP.split; rfl; rfl; all_goals (intro hc; simp only [hc]; try simp only [beq_iff_eq, decide_eq_true_eq, beq_eq_false_iff_ne, decide_eq_false_iff_not, bne_iff_ne, ne_eq, Bool.not_eq_true', Bool.not_eq_false', Int.not_le, Int.not_lt, bne_eq_false_iff_eq, Bool.or_eq_true, Bool.and_eq_true, Bool.or_eq_false_iff] at hc)))
        apply SeqP.eff
        · rfl
        intro KE hKE
        go_wp2_with fail
        refine (rnew20_any 1 (mkEp x) (mkSite x) n x.stamp (sitesTo (mkTo x 20) 7) A6 c6 w6 H6.out.2.2.2 (by rw [sitesTo_len]; have := listTo_len (mkTo x 20) 7; omega) (fun i hi => sites_in hi)).mono ?_
        rintro e w7 ⟨g7, rfl, hg7, hB7, hb7⟩
        have HI7 := Lib.hid (HI6.out.keep hb7)
        have H7 := Lib.hid (And.intro H6.out.1 (And.intro (H6.out.2.1.keep hb7) (And.intro H6.out.2.2.1 (And.intro hB7 (show w.heap.size ≤ g7 from by have := HI6.out.1.size; omega)))))
        clear hB7 hb7 hg7 HI6 H6
        refine hKE _ _ (hTP' _ (And.intro HI7.out.1 HI7.out.2.2.1)) ?_
        clear hKE KE
        go_wp2_with (first
          | (apply SeqP.skip; rfl; simp only [Act.put, List.setIfInBounds_toArray, List.set_cons_zero, List.set_cons_succ])
          | (apply SeqP.call; rfl; rfl; (intro w2 hw; have hw := hTP _ hw; (skip); go_simp; exact ⟨rfl, rfl⟩); (intro w2 hw; have hw := hTP _ hw; (skip); (first | fail)); simp only [Act.put, List.setIfInBounds_toArray, List.set_cons_zero, List.set_cons_succ])
          | (apply SeqP.pure; rfl; (intro w2 hw; have hw := hTP _ hw; (skip); go_simp; with_reducible rfl); simp only [Act.put, List.setIfInBounds_toArray, List.set_cons_zero, List.set_cons_succ])
          | (apply SeqP.split; rfl; rfl; all_goals (intro hc; simp only [hc]; try simp only [beq_iff_eq, decide_eq_true_eq, beq_eq_false_iff_ne, decide_eq_false_iff_not, bne_iff_ne, ne_eq, Bool.not_eq_true', Bool.not_eq_false', Int.not_le, Int.not_lt, bne_eq_false_iff_eq, Bool.or_eq_true, Bool.and_eq_true, Bool.or_eq_false_iff] at hc)))
        apply SeqP.nil
        refine hKP _ _ (hTP' _ (And.intro HI7.out.1 HI7.out.2.2.1)) ?_
        clear hKP hTP hTP'
        go_wp2_with fail
        go_ret2
        have hO : mkO x = madeO 1 (mkEp x) (mkSite x) n x.stamp (sitesTo (mkTo x 20) 7) := by unfold mkO; rw [HL.out, HN.out.1]
        have hO' : mkO x = madeO 1 (mkB x).epoch (mkB x).site (mkB x).n (mkB x).stamp (sitesTo (mkTo x 20) 7) := by unfold mkO; rw [HL.out]; rfl
        exact .inl ⟨by unfold mkWon; rw [← HL.out]; exact H7.out.1, h, g7, rfl, H7.out.2.2.1, H7.out.2.2.2.2, by rw [hO']; exact H7.out.2.1, by rw [hO]; exact H7.out.2.2.2.1, HI7.out.1⟩
      case neg =>
        have j1 : ¬ (j : Int) < (x.who.length : Int) := by omega
        go_wp2_with fail
        refine (mk_onew x n HN.out.1 HX.out w.heap.size g (mkTo x j) wo HI.out.2.1).mono ?_
        rintro e w5 (⟨hwon, h, rfl, hgh, hBo, hb5⟩ | ⟨hwon, rfl, hb5⟩)
        case inr =>
          have HZ := Lib.hid (And.intro hwon (below_trans HI.out.1 hb5 HI.out.1.size))
          clear hwon hb5
          go_wp2_with fail
          go_ret2
          exact .inr ⟨by unfold mkWon; rw [← HL.out]; exact HZ.out.1, rfl, HZ.out.2⟩
        have hd5 : Below w5.heap.size w5 w5.drew := (Below.refl _ _).drew
        have HI5 := Lib.hid ((HI.out.keep hb5).keep hd5)
        have H5 := Lib.hid (And.intro hwon (And.intro (hBo.keep hd5) (show w.heap.size ≤ h from by have := HI.out.1.size; omega)))
        clear hwon hb5 hgh hBo hd5 HI f0 f1 f2 f3
        go_wp2_with fail
        refine wp_region_p ([(0, true), (1, true), (2, true), (3, true), (4, true), (5, true), (6, true), (7, true), (8, false), (9, false), (10, true), (11, true)]) (fun w' => Below w.heap.size w w' ∧ Blk w' w.heap.size 68 (begv20 x (A, x.who.length, c))) (by kernel_rfl) rfl (by kernel_rfl) (by kernel_rfl) (And.intro HI5.out.1 HI5.out.2.2.1) rfl ?_
        intro KP RP TP hKP hTP hTP'
        simp only [List.append_eq, List.cons_append, List.nil_append, pick, nth]
        generalize w5.drew = wd at *
        go_wp2_with (first
          | (apply SeqP.skip; rfl; simp only [Act.put, List.setIfInBounds_toArray, List.set_cons_zero, List.set_cons_succ])
          | (apply SeqP.call; rfl; rfl; (intro w2 hw; have hw := hTP _ hw; (obtain ⟨f0, f1, f2, f3⟩ := FC w2 hw.2); go_simp; exact ⟨rfl, rfl⟩); (intro w2 hw; have hw := hTP _ hw; (obtain ⟨f0, f1, f2, f3⟩ := FC w2 hw.2); (first | fail)); simp only [Act.put, List.setIfInBounds_toArray, List.set_cons_zero, List.set_cons_succ])
          | (apply SeqP.pure; rfl; (intro w2 hw; have hw := hTP _ hw; (obtain ⟨f0, f1, f2, f3⟩ := FC w2 hw.2); go_simp; with_reducible rfl); simp only [Act.put, List.setIfInBounds_toArray, List.set_cons_zero, List.set_cons_succ])
          | (apply SeqP.split; rfl; rfl; all_goals (intro hc; simp only [hc]; try simp only [beq_iff_eq, decide_eq_true_eq, beq_eq_false_iff_ne, decide_eq_false_iff_not, bne_iff_ne, ne_eq, Bool.not_eq_true', Bool.not_eq_false', Int.not_le, Int.not_lt, bne_eq_false_iff_eq, Bool.or_eq_true, Bool.and_eq_true, Bool.or_eq_false_iff] at hc)))
        apply SeqP.eff
        · rfl
        intro KE hKE
        go_wp2_with fail
        obtain ⟨sl5, hb5, _⟩ := HI5.out.2.1
        refine (bsites_any g (mkB x) (mkTo x j) sl5 wd hb5 (by show mkN x ≠ 0; rw [HN.out.1]; exact hnz)).mono ?_
        clear hb5
        rintro e w6 ⟨v6, rfl, hR6, hb6⟩
        obtain ⟨A6, c6, rfl, _, _, hNu⟩ := RowI.form hR6
        have HI6 := Lib.hid (HI5.out.keep hb6)
        have H6 := Lib.hid (And.intro H5.out.1 (And.intro (H5.out.2.1.keep hb6) (And.intro H5.out.2.2 hNu)))
        clear hR6 hb6 hNu HI5 H5
        refine hKE _ _ (hTP' _ (And.intro HI6.out.1 HI6.out.2.2.1)) ?_
        clear hKE KE
        go_wp2_with (first
          | (apply SeqP.skip; rfl; simp only [Act.put, List.setIfInBounds_toArray, List.set_cons_zero, List.set_cons_succ])
          | (apply SeqP.call; rfl; rfl; (intro w2 hw; have hw := hTP _ hw; (skip); go_simp; exact ⟨rfl, rfl⟩); (intro w2 hw; have hw := hTP _ hw; (skip); (first | fail)); simp only [Act.put, List.setIfInBounds_toArray, List.set_cons_zero, List.set_cons_succ])
          | (apply SeqP.pure; rfl; (intro w2 hw; have hw := hTP _ hw; (skip); go_simp; with_reducible rfl); simp only [Act.put, List.setIfInBounds_toArray, List.set_cons_zero, List.set_cons_succ])
          | (apply SeqP.split; rfl; rfl; all_goals (intro hc; simp only [hc]; try simp only [beq_iff_eq, decide_eq_true_eq, beq_eq_false_iff_ne, decide_eq_false_iff_not, bne_iff_ne, ne_eq, Bool.not_eq_true', Bool.not_eq_false', Int.not_le, Int.not_lt, bne_eq_false_iff_eq, Bool.or_eq_true, Bool.and_eq_true, Bool.or_eq_false_iff] at hc)))
        apply SeqP.eff
        · rfl
        intro KE hKE
        go_wp2_with fail
        refine (rnew20_any 1 (mkEp x) (mkSite x) n x.stamp (sitesTo (mkTo x j) 7) A6 c6 w6 H6.out.2.2.2 (by rw [sitesTo_len]; have := listTo_len (mkTo x j) 7; omega) (fun i hi => sites_in hi)).mono ?_
        rintro e w7 ⟨g7, rfl, hg7, hB7, hb7⟩
        have HI7 := Lib.hid (HI6.out.keep hb7)
        have H7 := Lib.hid (And.intro H6.out.1 (And.intro (H6.out.2.1.keep hb7) (And.intro H6.out.2.2.1 (And.intro hB7 (show w.heap.size ≤ g7 from by have := HI6.out.1.size; omega)))))
        clear hB7 hb7 hg7 HI6 H6
        refine hKE _ _ (hTP' _ (And.intro HI7.out.1 HI7.out.2.2.1)) ?_
        clear hKE KE
        go_wp2_with (first
          | (apply SeqP.skip; rfl; simp only [Act.put, List.setIfInBounds_toArray, List.set_cons_zero, List.set_cons_succ])
          | (apply SeqP.call; rfl; rfl; (intro w2 hw; have hw := hTP _ hw; (skip); go_simp; exact ⟨rfl, rfl⟩); (intro w2 hw; have hw := hTP _ hw; (skip); (first | fail)); simp only [Act.put, List.setIfInBounds_toArray, List.set_cons_zero, List.set_cons_succ])
          | (apply SeqP.pure; rfl; (intro w2 hw; have hw := hTP _ hw; (skip); go_simp; with_reducible rfl); simp only [Act.put, List.setIfInBounds_toArray, List.set_cons_zero, List.set_cons_succ])
          | (apply SeqP.split; rfl; rfl; all_goals (intro hc; simp only [hc]; try simp only [beq_iff_eq, decide_eq_true_eq, beq_eq_false_iff_ne, decide_eq_false_iff_not, bne_iff_ne, ne_eq, Bool.not_eq_true', Bool.not_eq_false', Int.not_le, Int.not_lt, bne_eq_false_iff_eq, Bool.or_eq_true, Bool.and_eq_true, Bool.or_eq_false_iff] at hc)))
        apply SeqP.nil
        refine hKP _ _ (hTP' _ (And.intro HI7.out.1 HI7.out.2.2.1)) ?_
        clear hKP hTP hTP'
        go_wp2_with fail
        go_ret2
        have hO : mkO x = madeO 1 (mkEp x) (mkSite x) n x.stamp (sitesTo (mkTo x j) 7) := by unfold mkO; rw [HL.out, HN.out.1]
        have hO' : mkO x = madeO 1 (mkB x).epoch (mkB x).site (mkB x).n (mkB x).stamp (sitesTo (mkTo x j) 7) := by unfold mkO; rw [HL.out]; rfl
        exact .inl ⟨by unfold mkWon; rw [← HL.out]; exact H7.out.1, h, g7, rfl, H7.out.2.2.1, H7.out.2.2.2.2, by rw [hO']; exact H7.out.2.1, by rw [hO]; exact H7.out.2.2.2.1, HI7.out.1⟩
end Go.Proofs.Ytdphfhenjndkkaa

set_option linter.unusedSimpArgs false
set_option linter.unusedVariables false
set_option maxRecDepth 100000
namespace Go.Proofs.Ytdphfhenjndkkaa
open Go Go.RowKit Go.Sq Go.Wd Go.Arch

def bV : BegS := ⟨0, 2, 1, 3, 7⟩
def ownV : RegS := ⟨2, 0, [], 0⟩
def SV : Slots := put7 no7 1 ownV
def pV : MailS := ⟨2, 0, 1, 0, 2, 0, 0, 0, 7, []⟩
def SV2 : Slots := addS bV SV pV
theorem okV : newOk bV ownV := by decide
theorem addV : addOk bV SV pV := by decide
theorem wonV : wonS bV SV = false := by decide
theorem wonV2 : wonS bV SV2 = true := by decide
def oV : OwnS := madeO 0 2 1 3 7 (sitesTo SV2 7)
theorem fineV : FineO oV := by unfold FineO; decide
def aV : MailS := ⟨5, 0, 1, 0, 2, 0, 0, 1, 9, []⟩
def oV1 : OwnS := sureS oV 2
def oV2 : OwnS := ackS oV1 aV
theorem most_of {l s : List Int} {n : Int} (h : sortE l = s) : mostE l n = if mostOk l n then (s.getD (l.length - (majE n).toNat) 0, true) else (0, false) := by
  unfold mostE
  rw [h]
theorem until_of {o : OwnS} {now : Int} {l : List Int} {p : Int × Bool} (ht : toldE (up7 o.st o.site.toNat now) o.n = l) (hs : mostE l o.n = p) : untilO o now = if p.2 = true ∧ p.1 ≤ 1073741824 then p.1 + 10 else 0 := by
  unfold untilO mostO
  rw [ht, hs]
theorem sort2 {a b : Int} (h : a ≤ b) : sortE [a, b] = [a, b] := by
  unfold sortE
  apply List.mergeSort_of_pairwise
  simp [h]
theorem untilV : untilO oV 7 = 17 := (until_of (l := [7, 7]) (p := (7, true)) (by decide) ((most_of (sort2 (by decide))).trans (by decide))).trans (by decide)
theorem untilV16 : untilO oV 16 = 17 := (until_of (l := [7, 16]) (p := (7, true)) (by decide) ((most_of (sort2 (by decide))).trans (by decide))).trans (by decide)
theorem untilV17 : untilO oV 17 = 17 := (until_of (l := [7, 17]) (p := (7, true)) (by decide) ((most_of (sort2 (by decide))).trans (by decide))).trans (by decide)
theorem openV : openO oV 16 = true := by unfold openO; rw [untilV16]; decide
theorem openV2 : openO oV 17 = false := by unfold openO; rw [untilV17]; decide
theorem commitV : commitO oV = 0 := by decide
theorem commitV1 : commitO oV1 = 0 := by decide
theorem ackV : ackOk oV1 aV := by decide
theorem commitV2 : commitO oV2 = 1 := by
  have h : mostO oV2.has oV2.n = (1, true) := by
    unfold mostO
    rw [show toldE oV2.has oV2.n = [1, 2] from by decide]
    exact (most_of (sort2 (by decide))).trans (by decide)
  unfold commitO
  rw [h]
  rfl
theorem untilV2 : untilO oV2 9 = 19 := (until_of (l := [9, 9]) (p := (9, true)) (by decide) ((most_of (sort2 (by decide))).trans (by decide))).trans (by decide)
theorem frzV : frzE oV2 1 = 2 := by decide
theorem frzV' : frzS oV2 1 = oV2 := if_neg (by decide)
def oV3 : OwnS := frzS oV2 2
theorem frzV2 : frzE oV2 2 = 0 := by decide
theorem openV3 : openO oV3 9 = false := by decide
theorem fineV1 : FineO oV1 := fineV
theorem fineV2 : FineO oV2 := by unfold FineO; decide
theorem fineV3 : FineO oV3 := by unfold FineO; decide
theorem fzV3 : oV3.fz = true ∧ oV3.target = 2 := by decide
end Go.Proofs.Ytdphfhenjndkkaa

set_option linter.unusedSimpArgs false
set_option linter.unusedVariables false
set_option maxRecDepth 100000
namespace Go.Proofs.Ytdphfhenjndkkaa
open Go Go.RowKit Go.Sq Go.Wd Go.Arch

set_option maxHeartbeats 8000000 in
theorem lives20_any (w : World) : Calls Try.prog 23 #[] w fun e w' => e = .returned (.bool true) ∧ Below w.heap.size w w' := by
  have hn1 := new_any bV ownV no0 w LogAt.nil (by simp [ownV])
  have H1 := Lib.hid hn1
  clear hn1
  go_enter Try.func23, Try.ntmps23
  go_wp2_with fail
  refine H1.out.mono ?_
  clear H1
  rintro e w1 (⟨_, g, rfl, hgw, hB, hb⟩ | ⟨hno, _⟩)
  case inr => exact absurd okV hno
  have hB1 : BalAt w1 w.heap.size g bV SV := hB
  have H1 := Lib.hid (And.intro hB1 (And.intro hb hgw))
  clear hB hB1 hb hgw
  go_wp2_with fail
  refine (onew_any 0 w.heap.size g bV SV w1 H1.out.1 (by decide) (by decide) (by decide) (by decide) (by decide) (by decide)).mono ?_
  rintro e w2 (⟨hwon, _⟩ | ⟨_, rfl, hb2⟩)
  case inl => rw [wonV] at hwon; cases hwon
  have H2 := Lib.hid (show BalAt w2 w.heap.size g bV SV ∧ Below w.heap.size w w2 ∧ w.heap.size ≤ g from ⟨H1.out.1.keep hb2, below_trans H1.out.2.1 hb2 H1.out.2.1.size, H1.out.2.2⟩)
  clear hb2 H1
  go_wp2_with fail
  refine (add_any w.heap.size g bV SV ⟨pV, no0, (0, 0, 0, 0, 0), (0, 0, 0)⟩ w2 H2.out.1 H2.out.2.1.size (by decide) LogAt.nil (by simp [pV])).mono ?_
  rintro e w3 ⟨rfl, hB, hK⟩
  have hB' : BalAt w3 w.heap.size g bV SV2 := hB
  have H3 := Lib.hid (show BalAt w3 w.heap.size g bV SV2 ∧ Below w.heap.size w w3 ∧ w.heap.size ≤ g from ⟨hB', H2.out.2.1.trans (hK.below (B := w.heap.size) (fun k e => by cases e; exact H2.out.2.2) (fun k e => by cases e) H2.out.2.1.size), H2.out.2.2⟩)
  clear hB hB' hK H2
  go_wp2_with fail
  refine (onew_any 0 w.heap.size g bV SV2 w3 H3.out.1 (by decide) (by decide) (by decide) (by decide) (by decide) (by decide)).mono ?_
  rintro e w4 (⟨_, h, rfl, hhw, hBo, hb4⟩ | ⟨hwon, _⟩)
  case inr => rw [wonV2] at hwon; cases hwon
  have hBo' : Blk w4 h 116 (ownv oV) := hBo
  have H4 := Lib.hid (show Blk w4 h 116 (ownv oV) ∧ Below w.heap.size w w4 ∧ w.heap.size ≤ h from ⟨hBo', below_trans H3.out.2.1 hb4 H3.out.2.1.size, by have := H3.out.2.1.size; omega⟩)
  clear hBo hBo' hb4 hhw H3
  go_wp2_with fail
  refine (until_any h oV 7 w4 H4.out.1 fineV).mono ?_
  rintro e w5 ⟨rfl, hb⟩
  rw [untilV]
  have H5 := Lib.hid (show Blk w5 h 116 (ownv oV) ∧ Below w.heap.size w w5 ∧ w.heap.size ≤ h from ⟨H4.out.1.keep hb, below_trans H4.out.2.1 hb H4.out.2.1.size, H4.out.2.2⟩)
  clear hb H4
  go_wp2_with fail
  refine (oopen_any h oV 16 w5 H5.out.1 fineV).mono ?_
  rintro e w6 ⟨rfl, hb⟩
  rw [openV]
  have H6 := Lib.hid (show Blk w6 h 116 (ownv oV) ∧ Below w.heap.size w w6 ∧ w.heap.size ≤ h from ⟨H5.out.1.keep hb, below_trans H5.out.2.1 hb H5.out.2.1.size, H5.out.2.2⟩)
  clear hb H5
  go_wp2_with fail
  refine (oopen_any h oV 17 w6 H6.out.1 fineV).mono ?_
  rintro e w7 ⟨rfl, hb⟩
  rw [openV2]
  have H7 := Lib.hid (show Blk w7 h 116 (ownv oV) ∧ Below w.heap.size w w7 ∧ w.heap.size ≤ h from ⟨H6.out.1.keep hb, below_trans H6.out.2.1 hb H6.out.2.1.size, H6.out.2.2⟩)
  clear hb H6
  go_wp2_with fail
  refine (commit_any h oV w7 H7.out.1 fineV.1).mono ?_
  rintro e w8 ⟨rfl, hb⟩
  rw [commitV]
  have H8 := Lib.hid (show Blk w8 h 116 (ownv oV) ∧ Below w.heap.size w w8 ∧ w.heap.size ≤ h from ⟨H7.out.1.keep hb, below_trans H7.out.2.1 hb H7.out.2.1.size, H7.out.2.2⟩)
  clear hb H7
  go_wp2_with fail
  refine (sure_any h oV 2 w8 H8.out.1 fineV).mono ?_
  rintro e w9 ⟨rfl, hB, hK⟩
  have H9 := Lib.hid (show Blk w9 h 116 (ownv oV1) ∧ Below w.heap.size w w9 ∧ w.heap.size ≤ h from ⟨hB, H8.out.2.1.trans (hK.below (B := w.heap.size) (fun k e => by cases e; exact H8.out.2.2) (fun k e => by cases e) H8.out.2.1.size), H8.out.2.2⟩)
  clear hB hK H8
  go_wp2_with fail
  refine (commit_any h oV1 w9 H9.out.1 fineV1.1).mono ?_
  rintro e w10 ⟨rfl, hb⟩
  rw [commitV1]
  have H10 := Lib.hid (show Blk w10 h 116 (ownv oV1) ∧ Below w.heap.size w w10 ∧ w.heap.size ≤ h from ⟨H9.out.1.keep hb, below_trans H9.out.2.1 hb H9.out.2.1.size, H9.out.2.2⟩)
  clear hb H9
  go_wp2_with fail
  refine (ack_any h oV1 ⟨aV, no0, (0, 0, 0, 0, 0), (0, 0, 0)⟩ w10 H10.out.1 fineV1).mono ?_
  rintro e w11 ⟨rfl, hB, hK⟩
  rw [show decide (ackOk oV1 aV) = true from decide_eq_true ackV]
  have H11 := Lib.hid (show Blk w11 h 116 (ownv oV2) ∧ Below w.heap.size w w11 ∧ w.heap.size ≤ h from ⟨hB, H10.out.2.1.trans (hK.below (B := w.heap.size) (fun k e => by cases e; exact H10.out.2.2) (fun k e => by cases e) H10.out.2.1.size), H10.out.2.2⟩)
  clear hB hK H10
  go_wp2_with fail
  refine (commit_any h oV2 w11 H11.out.1 fineV2.1).mono ?_
  rintro e w12 ⟨rfl, hb⟩
  rw [commitV2]
  have H12 := Lib.hid (show Blk w12 h 116 (ownv oV2) ∧ Below w.heap.size w w12 ∧ w.heap.size ≤ h from ⟨H11.out.1.keep hb, below_trans H11.out.2.1 hb H11.out.2.1.size, H11.out.2.2⟩)
  clear hb H11
  go_wp2_with fail
  refine (until_any h oV2 9 w12 H12.out.1 fineV2).mono ?_
  rintro e w13 ⟨rfl, hb⟩
  rw [untilV2]
  have H13 := Lib.hid (show Blk w13 h 116 (ownv oV2) ∧ Below w.heap.size w w13 ∧ w.heap.size ≤ h from ⟨H12.out.1.keep hb, below_trans H12.out.2.1 hb H12.out.2.1.size, H12.out.2.2⟩)
  clear hb H12
  go_wp2_with fail
  refine (freeze_any h oV2 1 w13 H13.out.1 fineV2).mono ?_
  rintro e w14 ⟨rfl, hB, hK⟩
  rw [frzV, frzV'] at *
  have H14 := Lib.hid (show Blk w14 h 116 (ownv oV2) ∧ Below w.heap.size w w14 ∧ w.heap.size ≤ h from ⟨hB, H13.out.2.1.trans (Go.Wd.below_grown hK H13.out.2.2 H13.out.2.1.size), H13.out.2.2⟩)
  clear hB hK H13
  go_wp2_with fail
  refine (freeze_any h oV2 2 w14 H14.out.1 fineV2).mono ?_
  rintro e w15 ⟨rfl, hB, hK⟩
  rw [frzV2]
  have H15 := Lib.hid (show Blk w15 h 116 (ownv oV3) ∧ Below w.heap.size w w15 ∧ w.heap.size ≤ h from ⟨hB, H14.out.2.1.trans (Go.Wd.below_grown hK H14.out.2.2 H14.out.2.1.size), H14.out.2.2⟩)
  clear hB hK H14
  go_wp2_with fail
  refine (oopen_any h oV3 9 w15 H15.out.1 fineV3).mono ?_
  rintro e w16 ⟨rfl, hb⟩
  rw [openV3]
  have H16 := Lib.hid (show Blk w16 h 116 (ownv oV3) ∧ Below w.heap.size w w16 ∧ w.heap.size ≤ h from ⟨H15.out.1.keep hb, below_trans H15.out.2.1 hb H15.out.2.1.size, H15.out.2.2⟩)
  clear hb H15
  go_wp2_with fail
  refine (otarget_any h oV3 w16 H16.out.1 fineV3).mono ?_
  rintro e w17 ⟨rfl, rfl⟩
  rw [show targO oV3 = 2 from by decide, fzV3.1]
  go_wp2_with fail
  go_ret
  exact ⟨rfl, H16.out.2.1⟩
end Go.Proofs.Ytdphfhenjndkkaa

set_option linter.unusedSimpArgs false
set_option linter.unusedVariables false
set_option maxRecDepth 100000
namespace Go.Wd
open Go Go.RowKit
theorem exec_load_range {P : Program} {w : World} {o : Oper} {a : Act} (ty : TypeId) (x : Operand) (ho : o.op = .load ty x) (g i : Nat) (hx : a.eval x = .pointer (some ⟨g, i, none⟩))
    (cs : List Value) (hr : w.rangeAt g i cs) (d : TypeDesc) (hu : P.underlying ty = some d) (hd : d.isRow = true) (hi : (P.info? ty).map (·.size) = some cs.length) :
    (execOp a.eval o).run P w = .ok (.value (.agg cs.toArray)) w := by
  unfold execOp
  simp only [ho, hx, Instr.loadAt, Instr.sureAddr, Sem.run_bind, Sem.run_pure, Result.andThen_ok, run_loadVar_mid w g i ty cs d hr hu hd hi]
theorem wpList_load_range_g {P : Program} {w : World} {ops : Array Oper} {rest : List Oper} {o : Oper} {a : Act} {Q : Exit → Act → World → Prop} (ty : TypeId) (x : Operand) (ho : o.op = .load ty x)
    (hw : Region.wanted o (yielded ops a.tmps) = true) (g i : Nat) (hx : a.eval x = .pointer (some ⟨g, i, none⟩)) (cs : List Value) (d : TypeDesc) (hr : w.rangeAt g i cs)
    (hu : P.underlying ty = some d) (hd : d.isRow = true) (hi : (P.info? ty).map (·.size) = some cs.length)
    (h : wpList P ops Q rest (a.put o.dst (.agg cs.toArray)) w) : wpList P ops Q (o :: rest) a w :=
  wpList_wanted hw fun _ hK => wp_load_mid ty x ho g i hx cs d hr hu hd hi (hK _ _ h)
end Go.Wd
namespace Go.Proofs.Ytdphfhenjndkkaa
open Go Go.RowKit Go.Sq Go.Wd Go.Arch

/-- The k-th piece, as a range of cells. -/
theorem Mails.range {w : World} {B : Nat} {A : Option Addr} {l : List MailV} (h : Mails w B A l) {k : Nat} (hk : k < l.length) : ∃ b off x, A = some ⟨b, off, none⟩ ∧ Hid (l[k]? = some x) ∧ (∀ w', Below B w w' → w'.rangeAt b (off + k * 18) (mailv x)) ∧ Hid (LogAt w B x.es x.m.ents) := by
  obtain ⟨b, off, x, ha, hx, _, hc, hl⟩ := h.at_ hk
  refine ⟨b, off, x, ha, hx, fun w' hb j v hv => ?_, hl⟩
  have hj : j < 18 := (List.getElem?_eq_some_iff.1 hv).1
  rw [hc w' hb j hj]
  exact hv
end Go.Proofs.Ytdphfhenjndkkaa

set_option linter.unusedSimpArgs false
set_option linter.unusedVariables false
set_option maxRecDepth 100000
namespace Go.Proofs.Ytdphfhenjndkkaa
open Go Go.RowKit Go.Sq Go.Wd Go.Arch

theorem rowE_far {w w' : World} {B k : Nat} {v : Value} {l : List Ent} (h : Row w B v l) (hk : ∀ i T cs, i ≠ k → Blk w i T cs → Blk w' i T cs) (hB : k < B) : Row w' B v l := by
  refine ⟨h.1, ?_⟩
  rcases h.2 with h' | ⟨g, cap, cur, h1, h2, h3, rest⟩
  · exact .inl h'
  · refine .inr ⟨g, cap, cur, h1, h2, ?_, rest⟩
    have := hk g 64 cur.toList (by omega) (by unfold Blk; simpa using h3)
    unfold Blk at this
    simpa using this
theorem rowE_wh {w : World} {B B' : Nat} {A : Option Addr} {n c : Nat} {l : List Ent} (h : Row w B (.slice A n c) l) (hB : B' ≤ B) : ∀ b o, A = some ⟨b, o, none⟩ → B' ≤ b ∧ b < w.heap.size := by
  intro b o ho
  rcases id h.2 with ⟨h', _⟩ | ⟨g, cap, cur, h', hg, _⟩
  · cases h'; cases ho
  · cases h'; cases ho; exact ⟨by omega, (h.lt _ rfl).2⟩
theorem log_apart {w w' : World} {B : Nat} {k : Option Nat} {sl : SlcE} {l : List Ent} (h : LogAt w B sl l) (hB : B ≤ w.heap.size) (hg : w.grownBy w' k) (hne : ∀ b o, sl.1 = some ⟨b, o, none⟩ → some b ≠ k) : LogAt w' w'.heap.size sl l := by
  refine ⟨h.1, h.2.1, h.2.2.1, fun hl => ?_⟩
  obtain ⟨b, off, ha, hb, hc⟩ := h.2.2.2 hl
  have hk := hg.block b (by omega) (fun e => hne b off ha e)
  refine ⟨b, off, ha, Nat.lt_of_lt_of_le hb (Nat.le_trans hB hg.size), fun i e he => ?_⟩
  obtain ⟨c0, c1, c2, c3, c4, c5⟩ := hc i e he
  have key : ∀ o v, w.cell? ⟨b, o, none⟩ = some v → w'.cell? ⟨b, o, none⟩ = some v := fun o v hv => (World.cell?_of_block (a := ⟨b, o, none⟩) hk).trans hv
  exact ⟨key _ _ c0, key _ _ c1, key _ _ c2, key _ _ c3, key _ _ c4, key _ _ c5⟩
theorem log_drop {w : World} {B n cap : Nat} {A : Option Addr} {l : List Ent} (h : LogAt w B (A, n, cap) l) {c : Nat} (hcd : c ≤ l.length) :
    LogAt w B (if cap = c then A else A.map (·.add (c * 6)), n - c, cap - c) (l.drop c) := by
  obtain ⟨h1, h2, h3, h4⟩ := h
  dsimp only at h1 h2 h3
  subst h1
  have hlen : (l.drop c).length = l.length - c := List.length_drop
  refine ⟨hlen.symm, by rw [hlen]; show l.length - c ≤ cap - c; omega, by show cap - c ≤ 9223372036854775807; omega, fun hl => ?_⟩
  rw [hlen] at hl
  obtain ⟨b, off, ha, hb, hc⟩ := h4 (by omega)
  rw [if_neg (by omega)]
  subst ha
  refine ⟨b, off + c * 6, congrArg some (add_off b off (c * 6)), hb, fun i e he => ?_⟩
  rw [List.getElem?_drop] at he
  have := hc (c + i) e he
  rw [Nat.add_mul, ← Nat.add_assoc] at this
  exact this
theorem clone_at (l : List Ent) (sl : SlcE) (w : World) (hl : LogAt w w.heap.size sl l) (h2 : l.length ≤ 2000) :
    Calls Try.prog 49 #[.slice sl.1 sl.2.1 sl.2.2] w fun e w' => ∃ v, e = .returned v ∧ Row w' w.heap.size v l ∧ Below w.heap.size w w' := by
  obtain ⟨A, n, c⟩ := sl
  obtain rfl : n = l.length := hl.1
  exact clone_any l A c w hl h2

/-- What a site is to have from a place on. -/
def layM (o : OwnS) (r : RegS) (to : Int) (b : Nat) (now : Int) : MailS := ⟨4, o.site, to, o.stream, o.epoch, 0, b, r.com, now, r.log.drop b⟩
def layV (o : OwnS) (r : RegS) (to : Int) (b : Nat) (now : Int) (s : SlcE) : MailV := ⟨layM o r to b now, s, (0, 0, 0, 0, 0), (0, 0, 0)⟩
def mail0 : MailV := ⟨⟨0, 0, 0, 0, 0, 0, 0, 0, 0, []⟩, (none, 0, 0), (0, 0, 0, 0, 0), (0, 0, 0)⟩
/-- A piece of mail that is handed back, its entries of the call's own. -/
def OwnMail (w w' : World) (x : MailV) : Prop := LogAt w' w'.heap.size x.es x.m.ents ∧ (∀ b o, x.es.1 = some ⟨b, o, none⟩ → w.heap.size ≤ b ∧ b < w'.heap.size) ∧ Below w.heap.size w w'

set_option maxHeartbeats 4000000 in
theorem lay_any (g : Nat) (o : OwnS) (r : RegS) (sl : SlcE) (to : Int) (b : Nat) (now : Int) (w : World) (hb : Blk w g 116 (ownv o)) (hl : LogAt w w.heap.size sl r.log) (h2 : r.log.length ≤ 2000) (hbl : b ≤ r.log.length) :
    Calls Try.prog 61 #[.pointer (some ⟨g, 0, none⟩), .agg (rgv r sl).toArray, .int .i64 to, .int .i64 (b : Int), .int .i64 now] w fun e w' => ∃ s, e = .returned (.agg (mailv (layV o r to b now s)).toArray) ∧ OwnMail w w' (layV o r to b now s) := by
  obtain ⟨A, n, c⟩ := sl
  have hn : n = r.log.length := hl.1
  have hnc : n ≤ c := by rw [hn]; exact hl.2.1
  have hc2 : c ≤ 9223372036854775807 := hl.2.2.1
  have hbn : b ≤ n := by omega
  have i0 : (0 : Int) ≤ (b : Int) := by omega
  have i1 : (b : Int) ≤ (n : Int) := by omega
  have i2 : (n : Int) ≤ (c : Int) := by omega
  have i3 : (b : Int) ≤ (c : Int) := by omega
  have i4 : (c : Int) ≤ 9223372036854775807 := by omega
  have hz : Below w.heap.size w ((w.alloc (.cells (rgv r (A, n, c)).toArray 37)).alloc (.cells (mailv mail0).toArray 43)) := ((Below.refl _ _).alloc (Nat.le_refl _) _).alloc (by simp) _
  have B0 : Blk ((w.alloc (.cells (rgv r (A, n, c)).toArray 37)).alloc (.cells (mailv mail0).toArray 43)) w.heap.size 37 (rgv r (A, n, c)) := (Blk.new w _ _).alloc _
  have B1 : Blk ((w.alloc (.cells (rgv r (A, n, c)).toArray 37)).alloc (.cells (mailv mail0).toArray 43)) (w.heap.size + 1) 43 (mailv mail0) := Blk.newAt _ _ _ (by simp)
  have hcl : ∀ A' k m, A' = (if c = b then A else A.map (·.add (b * 6))) → k = n - b → m = c - b → Calls Try.prog 49 #[.slice A' k m] ((w.alloc (.cells (rgv r (A, n, c)).toArray 37)).alloc (.cells (mailv mail0).toArray 43)).drew fun e w' => ∃ v, e = .returned v ∧ Row w' ((w.alloc (.cells (rgv r (A, n, c)).toArray 37)).alloc (.cells (mailv mail0).toArray 43)).drew.heap.size v (r.log.drop b) ∧ Below ((w.alloc (.cells (rgv r (A, n, c)).toArray 37)).alloc (.cells (mailv mail0).toArray 43)).drew.heap.size ((w.alloc (.cells (rgv r (A, n, c)).toArray 37)).alloc (.cells (mailv mail0).toArray 43)).drew w' := by
    rintro _ _ _ rfl rfl rfl
    exact clone_at (r.log.drop b) (if c = b then A else A.map (·.add (b * 6)), n - b, c - b) _ (log_drop ((hl.keep hz).keep (Below.refl _ _).drew) hbl) (by rw [List.length_drop]; omega)
  have lg := hb.lt
  have FC : ∀ w', Blk w' w.heap.size 37 (rgv r (A, n, c)) ∧ Blk w' g 116 (ownv o) → (w'.cell? ⟨w.heap.size, 2, none⟩ = some (.slice A n c) ∧ w'.cell? ⟨w.heap.size, 3, none⟩ = some (.int .i64 r.com)) ∧ (w'.cell? ⟨g, 0, none⟩ = some (.int .i64 o.stream) ∧ w'.cell? ⟨g, 1, none⟩ = some (.int .i64 o.epoch) ∧ w'.cell? ⟨g, 2, none⟩ = some (.int .i64 o.site)) := fun w' h => ⟨⟨h.1.cell 2, h.1.cell 3⟩, h.2.cell 0, h.2.cell 1, h.2.cell 2⟩
  have HH := Lib.hid (And.intro hz.drew (And.intro B0.drew (And.intro B1.drew (hb.keep hz).drew)))
  clear hz B0 B1 hl hb hn hbl h2
  by_cases hcb : c = b
  case' pos =>
    subst hcb
    have HC := Lib.hid (hcl A 0 0 (by simp) (by omega) (by omega))
  case' neg =>
    have HC := Lib.hid (hcl (A.map (·.add (b * 6))) (n - b) (c - b) (by rw [if_neg hcb]) rfl rfl)
  all_goals
    clear hcl
    go_enter Try.func61, Try.ntmps61
    go_wp2_with fail
    refine wp_region_p ([(0, true), (1, true), (2, true), (3, true), (4, true), (5, true), (6, true), (7, true), (8, true), (9, true), (10, true), (11, true), (12, true), (13, true), (14, true), (15, true), (16, true), (17, true), (19, true), (20, true), (21, true), (18, false), (22, true), (23, false)]) (fun w' => Blk w' w.heap.size 37 (rgv r (A, n, c)) ∧ Blk w' g 116 (ownv o)) (by kernel_rfl) rfl (by kernel_rfl) (by kernel_rfl) (⟨HH.out.2.1, HH.out.2.2.2⟩) rfl ?_
    intro KP RP TP hKP hTP hTP'
    simp only [pick, nth]
    go_wp2_with (first
      | (apply SeqP.skip; rfl; simp only [Act.put, List.setIfInBounds_toArray, List.set_cons_zero, List.set_cons_succ])
      | (apply SeqP.call; rfl; rfl; (intro w2 hw; have hw := hTP _ hw; ((obtain ⟨⟨q2, q3⟩, r0, r1, r2⟩ := FC _ hw)); go_simp; exact ⟨rfl, rfl⟩); (intro w2 hw; have hw := hTP _ hw; ((obtain ⟨⟨q2, q3⟩, r0, r1, r2⟩ := FC _ hw)); (first | fail)); simp only [Act.put, List.setIfInBounds_toArray, List.set_cons_zero, List.set_cons_succ])
      | (apply SeqP.pure; rfl; (intro w2 hw; have hw := hTP _ hw; ((obtain ⟨⟨q2, q3⟩, r0, r1, r2⟩ := FC _ hw)); go_simp; with_reducible rfl); simp only [Act.put, List.setIfInBounds_toArray, List.set_cons_zero, List.set_cons_succ])
      | (apply SeqP.split; rfl; rfl; all_goals (intro hc; simp only [hc]; try simp only [beq_iff_eq, decide_eq_true_eq, beq_eq_false_iff_ne, decide_eq_false_iff_not, bne_iff_ne, ne_eq, Bool.not_eq_true', Bool.not_eq_false', Int.not_le, Int.not_lt, bne_eq_false_iff_eq, Bool.or_eq_true, Bool.and_eq_true, Bool.or_eq_false_iff] at hc)))
    apply SeqP.eff
    · rfl
    intro KE hKE
    go_wp2_with fail
    refine HC.out.mono ?_
    clear HC
    rintro e w1 ⟨v, rfl, hR, hb⟩
    obtain ⟨s, rfl, -⟩ := hR.log
    have hw1 := below_trans HH.out.1 hb HH.out.1.size
    have C0 := HH.out.2.1.keep hb
    have C1 := HH.out.2.2.1.keep hb
    have C2 := HH.out.2.2.2.keep hb
    have l1 := C1.lt
    refine hKE _ _ (hTP' _ ⟨C0, C2⟩) ?_
    clear hKE KE hb HH
    go_wp2_with (first
      | (apply SeqP.skip; rfl; simp only [Act.put, List.setIfInBounds_toArray, List.set_cons_zero, List.set_cons_succ])
      | (apply SeqP.call; rfl; rfl; (intro w2 hw; have hw := hTP _ hw; ((obtain ⟨⟨q2, q3⟩, r0, r1, r2⟩ := FC _ hw)); go_simp; exact ⟨rfl, rfl⟩); (intro w2 hw; have hw := hTP _ hw; ((obtain ⟨⟨q2, q3⟩, r0, r1, r2⟩ := FC _ hw)); (first | fail)); simp only [Act.put, List.setIfInBounds_toArray, List.set_cons_zero, List.set_cons_succ])
      | (apply SeqP.pure; rfl; (intro w2 hw; have hw := hTP _ hw; ((obtain ⟨⟨q2, q3⟩, r0, r1, r2⟩ := FC _ hw)); go_simp; with_reducible rfl); simp only [Act.put, List.setIfInBounds_toArray, List.set_cons_zero, List.set_cons_succ])
      | (apply SeqP.split; rfl; rfl; all_goals (intro hc; simp only [hc]; try simp only [beq_iff_eq, decide_eq_true_eq, beq_eq_false_iff_ne, decide_eq_false_iff_not, bne_iff_ne, ne_eq, Bool.not_eq_true', Bool.not_eq_false', Int.not_le, Int.not_lt, bne_eq_false_iff_eq, Bool.or_eq_true, Bool.and_eq_true, Bool.or_eq_false_iff] at hc)))
    apply SeqP.eff
    · rfl
    intro KE hKE
    refine wp_store_blk 43 _ _ rfl _ (mailv (layV o r to _ now s)) rfl rfl _ _ C1 mail_info rfl (mail_one _) ?_
    intro w8 B8 hb8 hk8
    have hw8 := hw1.trans (hb8 _ (by omega))
    have C08 := hk8 _ _ _ (by omega) C0
    have C28 := hk8 _ _ _ (by omega) C2
    have R8 := rowE_far hR hk8 (by simp)
    refine hKE _ _ (hTP' _ ⟨C08, C28⟩) ?_
    clear hKE KE
    apply SeqP.nil
    refine hKP _ _ (hTP' _ (⟨C08, C28⟩)) ?_
    clear hKP hTP hTP'
    go_wp2_with fail
    apply ret_of
    · exact results_blk rfl _ _ _ _ _ _ rfl B8 Try.underlying43 rfl mail_info
    · exact ⟨rfl, s, rfl, R8.logAt, rowE_wh R8 (by simp; omega), hw8⟩
end Go.Proofs.Ytdphfhenjndkkaa

set_option linter.unusedSimpArgs false
set_option linter.unusedVariables false
set_option maxRecDepth 100000
namespace Go.Proofs.Ytdphfhenjndkkaa
open Go Go.RowKit Go.Sq Go.Wd Go.Arch

/-- From where on a site is to have a log. -/
def baseO (o : OwnS) (k i : Nat) : Nat := min (max (o.has i) 0).toNat k
theorem baseO_is (o : OwnS) (k i : Nat) : min (max (o.has i) 0) (k : Int) = (baseO o k i : Int) := by unfold baseO; omega
theorem baseO_le (o : OwnS) (k i : Nat) : baseO o k i ≤ k := by unfold baseO; omega
def layTo (o : OwnS) (r : RegS) (now : Int) (j : Nat) : List MailS := ((List.range j).filter fun (i : Nat) => decide ((i : Int) ≠ o.site)).map fun (i : Nat) => layM o r (i : Int) (baseO o r.log.length i) now
section
variable {o : OwnS} {r : RegS} {now : Int}
theorem layTo_yes {j : Nat} (h : (j : Int) ≠ o.site) : layTo o r now (j + 1) = layTo o r now j ++ [layM o r (j : Int) (baseO o r.log.length j) now] := by
  unfold layTo
  rw [List.range_succ, List.filter_append]
  simp [h]
theorem layTo_no {j : Nat} (h : (j : Int) = o.site) : layTo o r now (j + 1) = layTo o r now j := by
  unfold layTo
  rw [List.range_succ, List.filter_append]
  simp [h]
theorem layTo_len : ∀ j : Nat, ((layTo o r now j).length : Int) = if 0 ≤ o.site ∧ o.site < j then (j : Int) - 1 else j
  | 0 => by
    rw [if_neg (by omega)]
    rfl
  | j + 1 => by
    have ih := layTo_len j
    by_cases h : (j : Int) = o.site
    · rw [layTo_no h, ih, if_neg (by omega), if_pos (by omega)]
      omega
    · rw [layTo_yes h, List.length_append]
      simp only [List.length_cons, List.length_nil]
      by_cases h2 : 0 ≤ o.site ∧ o.site < j
      · rw [if_pos h2] at ih
        rw [if_pos (by omega)]
        omega
      · rw [if_neg h2] at ih
        rw [if_neg (by omega)]
        omega
theorem layTo_pre (i : Nat) : ∀ d : Nat, layTo o r now i <+: layTo o r now (i + d)
  | 0 => List.prefix_refl _
  | d + 1 => by
    refine List.IsPrefix.trans (layTo_pre i d) ?_
    by_cases h : ((i + d : Nat) : Int) = o.site
    · rw [show i + (d + 1) = (i + d) + 1 from rfl, layTo_no h]
      exact List.prefix_refl _
    · rw [show i + (d + 1) = (i + d) + 1 from rfl, layTo_yes h]
      exact List.prefix_append _ _
theorem layTo_at {i n : Nat} (hi : i < n) (h : (i : Int) ≠ o.site) : (layTo o r now n)[(layTo o r now i).length]? = some (layM o r (i : Int) (baseO o r.log.length i) now) := by
  have hp := layTo_pre (o := o) (r := r) (now := now) (i + 1) (n - (i + 1))
  rw [show i + 1 + (n - (i + 1)) = n from by omega, layTo_yes h] at hp
  obtain ⟨t, ht⟩ := hp
  rw [← ht, List.append_assoc, List.getElem?_append_right (Nat.le_refl _), Nat.sub_self]
  rfl
end

/-- A row of mail of the call's own, its entries too. -/
def MRow (B : Nat) (w : World) (v : Value) (L : List MailV) : Prop :=
  Gr.Row mailE w B v L ∧ ∀ x ∈ L, LogAt w w.heap.size x.es x.m.ents ∧ ∀ b o, x.es.1 = some ⟨b, o, none⟩ → some b ≠ v.ownBlock ∧ b < w.heap.size
section
variable {B : Nat} {w w' : World} {v : Value} {L : List MailV}
theorem MRow.nil (w : World) (B : Nat) : MRow B w (.slice none 0 0) [] := ⟨Gr.Row.nil (R := mailE) w B, by simp⟩
theorem MRow.keep (h : MRow B w v L) (hb : Below w.heap.size w w') : MRow B w' v L :=
  ⟨Gr.Row.keep h.1 hb, fun x hx => ⟨(h.2 x hx).1.keep hb, fun b o e => ⟨((h.2 x hx).2 b o e).1, Nat.lt_of_lt_of_le ((h.2 x hx).2 b o e).2 hb.size⟩⟩⟩
theorem MRow.mails (h : MRow B w v L) : ∃ A c, v = .slice A L.length c ∧ L.length ≤ c ∧ c ≤ 9223372036854775807 ∧ Mails w w.heap.size A L := by
  obtain ⟨A, c, e, h1, h2, h3⟩ := Gr.Row.form h.1
  exact ⟨A, c, e, h1, h2, h3, fun x hx => (h.2 x hx).1⟩
theorem MRow.snoc {w3 : World} (h : MRow B w v L) (x : MailV) (hx : OwnMail w w3 x) (hn : L.length < 100000) (hB : B ≤ w.heap.size) :
    ∃ v' w', (Builtin.append_ #[22, 22] 22 #[v, .slice (some ⟨w3.heap.size, 0, none⟩) 1 1]).run Try.prog (w3.alloc (.cells (mailv x).toArray 43)) = .ok v' w' ∧ MRow B w' v' (L ++ [x]) ∧ w3.grownBy w' v.ownBlock := by
  obtain ⟨hx1, hx2, hx3⟩ := hx
  have h3 := h.keep hx3
  obtain ⟨v2, w2, hrun, hR2, hg2, hown⟩ := Gr.Row.snoc h3.1 x hn (Nat.le_trans hB hx3.size) (H := w3.heap.size) rfl 22
  refine ⟨v2, w2, hrun, ⟨hR2, fun y hy => ?_⟩, hg2⟩
  have hlt : ∀ g, v.ownBlock = some g → g < w.heap.size := fun g e => (h.1.lt g e).2
  have key : LogAt w3 w3.heap.size y.es y.m.ents ∧ ∀ b o, y.es.1 = some ⟨b, o, none⟩ → some b ≠ v.ownBlock ∧ b < w3.heap.size := by
    rcases List.mem_append.1 hy with hy | hy
    · exact h3.2 y hy
    · obtain rfl : y = x := by simpa using hy
      refine ⟨hx1, fun b o e => ⟨fun e2 => ?_, (hx2 b o e).2⟩⟩
      have := hlt b e2.symm
      have := (hx2 b o e).1
      omega
  refine ⟨log_apart key.1 (Nat.le_refl _) hg2 (fun b o e => (key.2 b o e).1), fun b o e => ⟨?_, Nat.lt_of_lt_of_le (key.2 b o e).2 hg2.size⟩⟩
  rcases hown with e2 | e2
  · rw [e2]; exact (key.2 b o e).1
  · rw [e2]
    intro e3
    have := (key.2 b o e).2
    cases e3
    omega
end

theorem omail_no (g : Nat) (o : OwnS) (r : RegS) (sl : SlcE) (now : Int) (w : World) (hb : Blk w g 116 (ownv o)) (hF : FineO o) (hv : r.view ≠ o.epoch) :
    Calls Try.prog 32 #[.pointer (some ⟨g, 0, none⟩), .agg (rgv r sl).toArray, .int .i64 now] w fun e w' => e = .returned (.slice none 0 0) ∧ Below w.heap.size w w' := by
  have hz := fine_nz hF
  have hw0 : Below w.heap.size w (w.alloc (.cells (rgv r sl).toArray 37)).drew := ((Below.refl _ _).alloc (Nat.le_refl _) _).drew
  have B0 : Blk (w.alloc (.cells (rgv r sl).toArray 37)).drew w.heap.size 37 (rgv r sl) := (Blk.new w _ _).drew
  have hB2 := hb.keep hw0
  have FC : ∀ w', Blk w' w.heap.size 37 (rgv r sl) ∧ Blk w' g 116 (ownv o) → w'.cell? ⟨w.heap.size, 1, none⟩ = some (.int .i64 r.view) ∧ w'.cell? ⟨g, 1, none⟩ = some (.int .i64 o.epoch) ∧ w'.cell? ⟨g, 3, none⟩ = some (.int .i64 o.n) := fun w' h => ⟨h.1.cell 1, h.2.cell 1, h.2.cell 3⟩
  have lg := hb.lt
  have HA := Lib.hid (And.intro hw0 (And.intro B0 hB2))
  have hne : (r.view != o.epoch) = true := by simpa using hv
  clear hw0 B0 hB2 hb hF hv
  go_enter Try.func32, Try.ntmps32
  go_wp2_with fail
  refine wp_region_p ([(0, true), (1, true), (2, true), (3, true), (4, true), (5, true), (6, true), (7, true), (8, true), (9, true), (10, true)]) (fun w' => Blk w' w.heap.size 37 (rgv r sl) ∧ Blk w' g 116 (ownv o)) (by kernel_rfl) rfl (by kernel_rfl) (by kernel_rfl) (HA.out.2) rfl ?_
  intro KP RP TP hKP hTP hTP'
  simp only [List.append_eq, List.cons_append, List.nil_append, pick, nth]
  go_wp2_with (first
    | (apply SeqP.skip; rfl; simp only [Act.put, List.setIfInBounds_toArray, List.set_cons_zero, List.set_cons_succ])
    | (apply SeqP.call; rfl; rfl; (intro w2 hw; have hw := hTP _ hw; ((obtain ⟨q1, r1, r3⟩ := FC _ hw)); go_simp; exact ⟨rfl, rfl⟩); (intro w2 hw; have hw := hTP _ hw; ((obtain ⟨q1, r1, r3⟩ := FC _ hw)); (first | (go_at_call 57; refine (onone_any g o.n _ (FC _ hw).2.2).mono ?_; rintro e w' ⟨rfl, rfl⟩; exact ⟨rfl, rfl⟩))); simp only [Act.put, List.setIfInBounds_toArray, List.set_cons_zero, List.set_cons_succ])
    | (apply SeqP.pure; rfl; (intro w2 hw; have hw := hTP _ hw; ((obtain ⟨q1, r1, r3⟩ := FC _ hw)); go_simp; with_reducible rfl); simp only [Act.put, List.setIfInBounds_toArray, List.set_cons_zero, List.set_cons_succ])
    | (apply SeqP.split; rfl; rfl; all_goals (intro hc; simp only [hc]; try simp only [beq_iff_eq, decide_eq_true_eq, beq_eq_false_iff_ne, decide_eq_false_iff_not, bne_iff_ne, ne_eq, Bool.not_eq_true', Bool.not_eq_false', Int.not_le, Int.not_lt, bne_eq_false_iff_eq, Bool.or_eq_true, Bool.and_eq_true, Bool.or_eq_false_iff] at hc)))
  apply SeqP.nil
  refine hKP _ _ (hTP' _ (HA.out.2)) ?_
  clear hKP hTP hTP'
  go_wp2_with fail
  go_ret
  exact ⟨rfl, HA.out.1⟩

set_option maxHeartbeats 4000000 in
theorem omail_yes (g : Nat) (o : OwnS) (r : RegS) (sl : SlcE) (now : Int) (n : Nat) (w : World) (hb : Blk w g 116 (ownv o)) (hF : FineO o) (hv : r.view = o.epoch) (hl : LogAt w w.heap.size sl r.log) (h2 : r.log.length ≤ 2000) (hn : o.n = n) :
    Calls Try.prog 32 #[.pointer (some ⟨g, 0, none⟩), .agg (rgv r sl).toArray, .int .i64 now] w fun e w' => ∃ v L, e = .returned v ∧ MRow w.heap.size w' v L ∧ L.map MailV.m = layTo o r now n ∧ Below w.heap.size w w' := by
  have hn7 : n ≤ 7 := by have := sites_cases hF.1; omega
  have hz := fine_nz hF
  obtain ⟨A, k, c⟩ := sl
  have hk : k = r.log.length := hl.1
  have hw0 : Below w.heap.size w (w.alloc (.cells (rgv r (A, k, c)).toArray 37)).drew := ((Below.refl _ _).alloc (Nat.le_refl _) _).drew
  have B0 : Blk (w.alloc (.cells (rgv r (A, k, c)).toArray 37)).drew w.heap.size 37 (rgv r (A, k, c)) := (Blk.new w _ _).drew
  have hB2 := hb.keep hw0
  have FC : ∀ w', Blk w' w.heap.size 37 (rgv r (A, k, c)) ∧ Blk w' g 116 (ownv o) → (w'.cell? ⟨w.heap.size, 1, none⟩ = some (.int .i64 r.view) ∧ w'.cell? ⟨w.heap.size, 2, none⟩ = some (.slice A k c)) ∧ w'.cell? ⟨g, 1, none⟩ = some (.int .i64 o.epoch) ∧ w'.cell? ⟨g, 2, none⟩ = some (.int .i64 o.site) ∧ w'.cell? ⟨g, 3, none⟩ = some (.int .i64 (n : Int)) := fun w' h => ⟨⟨h.1.cell 1, h.1.cell 2⟩, h.2.cell 1, h.2.cell 2, by rw [← hn]; exact h.2.cell 3⟩
  have lg := hb.lt
  have HA := Lib.hid (And.intro hw0 (And.intro B0 (And.intro hB2 (And.intro (hl.keep hw0) (And.intro hk h2)))))
  have hne : (r.view != o.epoch) = false := by simpa using hv
  have hzn : ((n : Int) == 0) = false := by rw [← hn]; exact hz
  clear hw0 B0 hB2 hb hF hv hn hz hl h2 hk
  go_enter Try.func32, Try.ntmps32
  go_wp2_with fail
  refine wp_region_p ([(0, true), (1, true), (2, true), (3, true), (4, true), (5, true), (6, true), (7, true), (8, true), (9, true), (10, true)]) (fun w' => Blk w' w.heap.size 37 (rgv r (A, k, c)) ∧ Blk w' g 116 (ownv o)) (by kernel_rfl) rfl (by kernel_rfl) (by kernel_rfl) (⟨HA.out.2.1, HA.out.2.2.1⟩) rfl ?_
  intro KP RP TP hKP hTP hTP'
  simp only [List.append_eq, List.cons_append, List.nil_append, pick, nth]
  go_wp2_with (first
    | (apply SeqP.skip; rfl; simp only [Act.put, List.setIfInBounds_toArray, List.set_cons_zero, List.set_cons_succ])
    | (apply SeqP.call; rfl; rfl; (intro w2 hw; have hw := hTP _ hw; ((obtain ⟨⟨q1, q2⟩, r1, r2, r3⟩ := FC _ hw)); go_simp; exact ⟨rfl, rfl⟩); (intro w2 hw; have hw := hTP _ hw; ((obtain ⟨⟨q1, q2⟩, r1, r2, r3⟩ := FC _ hw)); (first | (go_at_call 57; refine (onone_any g (n : Int) _ (FC _ hw).2.2.2).mono ?_; rintro e w' ⟨rfl, rfl⟩; exact ⟨rfl, rfl⟩))); simp only [Act.put, List.setIfInBounds_toArray, List.set_cons_zero, List.set_cons_succ])
    | (apply SeqP.pure; rfl; (intro w2 hw; have hw := hTP _ hw; ((obtain ⟨⟨q1, q2⟩, r1, r2, r3⟩ := FC _ hw)); go_simp; with_reducible rfl); simp only [Act.put, List.setIfInBounds_toArray, List.set_cons_zero, List.set_cons_succ])
    | (apply SeqP.split; rfl; rfl; all_goals (intro hc; simp only [hc]; try simp only [beq_iff_eq, decide_eq_true_eq, beq_eq_false_iff_ne, decide_eq_false_iff_not, bne_iff_ne, ne_eq, Bool.not_eq_true', Bool.not_eq_false', Int.not_le, Int.not_lt, bne_eq_false_iff_eq, Bool.or_eq_true, Bool.and_eq_true, Bool.or_eq_false_iff] at hc)))
  apply SeqP.nil
  refine hKP _ _ (hTP' _ (⟨HA.out.2.1, HA.out.2.2.1⟩)) ?_
  clear hKP hTP hTP'
  generalize (w.alloc (.cells (rgv r (A, k, c)).toArray 37)).drew = w1 at *
  obtain ⟨⟨f1, f2⟩, f3, f4, f5⟩ := FC _ ⟨HA.out.2.1, HA.out.2.2.1⟩
  go_wp2_with fail
  go_loopg [7, 24] n (fun q v i wr => ∃ (j : Nat) (L : List MailV), q = n - j ∧ j ≤ n ∧ i = .int .i64 j ∧ Below w1.heap.size w1 wr ∧ MRow w1.heap.size wr v L ∧ L.map MailV.m = layTo o r now j)
  case atStart => exact ⟨0, [], rfl, by omega, rfl, Below.refl _ _, MRow.nil _ _, rfl⟩
  case round =>
    clear f1 f2 f3 f4 f5
    obtain ⟨j, L, hq, hj, rfl, hwr, hR, hL⟩ := hrel
    have AA : Aside (gk = n - j) := hq
    clear hq
    obtain ⟨wo, rfl⟩ : ∃ wo, wo = wr := ⟨_, rfl⟩
    have HL := Lib.hid hL
    clear hL
    have FS : ∀ w', Below w1.heap.size w1 w' → Blk w' w.heap.size 37 (rgv r (A, k, c)) ∧ Blk w' g 116 (ownv o) := fun w' h => ⟨HA.out.2.1.keep h, HA.out.2.2.1.keep h⟩
    have HFS := Lib.hid FS
    clear FS
    obtain ⟨⟨f1, f2⟩, f3, f4, f5⟩ := FC _ (HFS.out _ hwr)
    by_cases hlt : j < n
    · have hi7 : (j : Int) < (n : Int) := by omega
      have hi0 : (0 : Int) ≤ (j : Int) := by omega
      by_cases hs : (j : Int) = o.site
      · have HS := Lib.hid hs
        have hne2 : ((j : Int) != o.site) = false := by simpa using hs
        clear hs
        go_wp2_with fail
        go_roundg (n - (j + 1))
        case measure => have hkk := AA.out; omega
        case rel => exact ⟨j + 1, L, rfl, by omega, by go_num, hwr, hR, by rw [layTo_no HS.out]; exact HL.out⟩
      · have HS := Lib.hid hs
        have hne2 : ((j : Int) != o.site) = true := by simpa using hs
        clear hs
        have j7 : (j : Int) < 7 := by omega
        obtain ⟨b, hb⟩ : ∃ b, baseO o k j = b := ⟨_, rfl⟩
        have hmn : min (max (o.has j) 0) (k : Int) = (b : Int) := by rw [← hb]; exact baseO_is o k j
        have HB := Lib.hid hb
        have hLn : L.length < 100000 := by
          have h1 : (L.map MailV.m).length = (layTo o r now j).length := by rw [HL.out]
          have h3 := layTo_len (o := o) (r := r) (now := now) j
          rw [List.length_map] at h1
          split at h3 <;> omega
        have HR := Lib.hid (And.intro hwr.drew (And.intro (hR.keep (Below.refl _ _).drew) hLn))
        have FU : ∀ w', Below w1.heap.size w1 w' → w'.cell? ⟨g, 4 + j, none⟩ = some (.int .i64 (o.has j)) := fun w' h => by rw [(HFS.out _ h).2.cell, ownv_has _ (show j < 7 by omega)]
        clear hb hR hLn
        go_wp2_with fail
        clear f1 f2 f3 f4 f5
        refine wp_region_p ([(0, true), (1, true), (2, true), (3, true), (4, true), (5, true), (6, true), (7, true), (8, true), (9, true), (10, true), (11, true), (12, true), (13, true), (14, true), (15, true), (16, false), (17, false), (18, false), (19, true)]) (fun w' => Below w1.heap.size w1 w') (by kernel_rfl) rfl (by kernel_rfl) (by kernel_rfl) (HR.out.1) rfl ?_
        intro KP RP TP hKP hTP hTP'
        simp only [List.append_eq, List.cons_append, List.nil_append, pick, nth]
        generalize wo.drew = wd at *
        go_wp2_with (first
          | (apply SeqP.skip; rfl; simp only [Act.put, List.setIfInBounds_toArray, List.set_cons_zero, List.set_cons_succ])
          | (apply SeqP.pure; rfl; (intro w2 hw; have hw := hTP _ hw; exact exec_load_blk 37 _ rfl _ rfl _ _ ((HFS.out _ hw).1) _ Try.underlying37 rfl rg_info); simp only [Act.put, List.setIfInBounds_toArray, List.set_cons_zero, List.set_cons_succ])
          | (apply SeqP.call; rfl; rfl; (intro w2 hw; have hw := hTP _ hw; ((obtain ⟨⟨f1, f2⟩, f3, f4, f5⟩ := FC _ (HFS.out _ hw); have f6 := FU _ hw)); go_simp; exact ⟨rfl, rfl⟩); (intro w2 hw; have hw := hTP _ hw; ((obtain ⟨⟨f1, f2⟩, f3, f4, f5⟩ := FC _ (HFS.out _ hw); have f6 := FU _ hw)); (first | fail)); simp only [Act.put, List.setIfInBounds_toArray, List.set_cons_zero, List.set_cons_succ])
          | (apply SeqP.pure; rfl; (intro w2 hw; have hw := hTP _ hw; ((obtain ⟨⟨f1, f2⟩, f3, f4, f5⟩ := FC _ (HFS.out _ hw); have f6 := FU _ hw)); go_simp; with_reducible rfl); simp only [Act.put, List.setIfInBounds_toArray, List.set_cons_zero, List.set_cons_succ])
          | (apply SeqP.split; rfl; rfl; all_goals (intro hc; simp only [hc]; try simp only [beq_iff_eq, decide_eq_true_eq, beq_eq_false_iff_ne, decide_eq_false_iff_not, bne_iff_ne, ne_eq, Bool.not_eq_true', Bool.not_eq_false', Int.not_le, Int.not_lt, bne_eq_false_iff_eq, Bool.or_eq_true, Bool.and_eq_true, Bool.or_eq_false_iff] at hc)))
        apply SeqP.eff
        · rfl
        intro KE hKE
        go_wp2_with fail
        have hlw := HA.out.2.2.2.1.keep HR.out.1
        refine (lay_any g o r (A, k, c) (j : Int) b now wd (HFS.out _ HR.out.1).2 hlw HA.out.2.2.2.2.2 (by rw [← HA.out.2.2.2.2.1, ← HB.out]; exact baseO_le o k j)).mono ?_
        rintro e w3 ⟨s, rfl, hOM⟩
        have hx : (layV o r (j : Int) b now s).m = layM o r (j : Int) (baseO o r.log.length j) now := by rw [← HA.out.2.2.2.2.1, HB.out]; rfl
        generalize layV o r (j : Int) b now s = x at hOM hx ⊢
        have hw3 := below_trans HR.out.1 hOM.2.2 HR.out.1.size
        obtain ⟨v2, w2, hrun, hR2, hg2⟩ := MRow.snoc HR.out.2.1 x hOM HR.out.2.2 HR.out.1.size
        have hw2 := Gr.below_row hw3 hg2 ((HR.out.2.1.keep hOM.2.2).1) hw3.size
        have H2 := Lib.hid (And.intro hw2 (And.intro hR2 hx))
        clear hw2 hR2 hx hg2 hlw
        refine hKE _ _ (hTP' _ hw3) ?_
        clear hKE KE
        go_wp2_with (first
          | (apply SeqP.skip; rfl; simp only [Act.put, List.setIfInBounds_toArray, List.set_cons_zero, List.set_cons_succ])
          | (apply SeqP.call; rfl; rfl; (intro w2 hw; have hw := hTP _ hw; ((obtain ⟨⟨f1, f2⟩, f3, f4, f5⟩ := FC _ (HFS.out _ hw); have f6 := FU _ hw)); go_simp; exact ⟨rfl, rfl⟩); (intro w2 hw; have hw := hTP _ hw; ((obtain ⟨⟨f1, f2⟩, f3, f4, f5⟩ := FC _ (HFS.out _ hw); have f6 := FU _ hw)); (first | fail)); simp only [Act.put, List.setIfInBounds_toArray, List.set_cons_zero, List.set_cons_succ])
          | (apply SeqP.pure; rfl; (intro w2 hw; have hw := hTP _ hw; ((obtain ⟨⟨f1, f2⟩, f3, f4, f5⟩ := FC _ (HFS.out _ hw); have f6 := FU _ hw)); go_simp; with_reducible rfl); simp only [Act.put, List.setIfInBounds_toArray, List.set_cons_zero, List.set_cons_succ])
          | (apply SeqP.split; rfl; rfl; all_goals (intro hc; simp only [hc]; try simp only [beq_iff_eq, decide_eq_true_eq, beq_eq_false_iff_ne, decide_eq_false_iff_not, bne_iff_ne, ne_eq, Bool.not_eq_true', Bool.not_eq_false', Int.not_le, Int.not_lt, bne_eq_false_iff_eq, Bool.or_eq_true, Bool.and_eq_true, Bool.or_eq_false_iff] at hc)))
        apply SeqP.eff
        · rfl
        intro KE hKE
        unfold mailv
        go_wp2_with fail
        refine hKE _ _ (hTP' _ (hw3.alloc hw3.size _)) ?_
        clear hKE KE
        go_wp2_with (first
          | (apply SeqP.skip; rfl; simp only [Act.put, List.setIfInBounds_toArray, List.set_cons_zero, List.set_cons_succ])
          | (apply SeqP.call; rfl; rfl; (intro w2 hw; have hw := hTP _ hw; (skip); go_simp; exact ⟨rfl, rfl⟩); (intro w2 hw; have hw := hTP _ hw; (skip); (first | fail)); simp only [Act.put, List.setIfInBounds_toArray, List.set_cons_zero, List.set_cons_succ])
          | (apply SeqP.pure; rfl; (intro w2 hw; have hw := hTP _ hw; (skip); go_simp; with_reducible rfl); simp only [Act.put, List.setIfInBounds_toArray, List.set_cons_zero, List.set_cons_succ])
          | (apply SeqP.split; rfl; rfl; all_goals (intro hc; simp only [hc]; try simp only [beq_iff_eq, decide_eq_true_eq, beq_eq_false_iff_ne, decide_eq_false_iff_not, bne_iff_ne, ne_eq, Bool.not_eq_true', Bool.not_eq_false', Int.not_le, Int.not_lt, bne_eq_false_iff_eq, Bool.or_eq_true, Bool.and_eq_true, Bool.or_eq_false_iff] at hc)))
        apply SeqP.eff
        · rfl
        intro KE hKE
        have hrun' : (Builtin.append_ #[22, 22] 22 #[u7, .slice (some ⟨w3.heap.size, 0, none⟩) 1 1]).run Try.prog (w3.alloc (.cells #[.int .i64 x.m.kind, .int .i64 x.m.from_, .int .i64 x.m.to, .int .i64 x.m.stream, .int .i64 x.m.epoch, .int .i64 x.m.view, .int .i64 x.m.base, .int .i64 x.m.len, .int .i64 x.m.stamp, .slice x.es.1 x.es.2.1 x.es.2.2, .int .i64 x.o.1, .int .i64 x.o.2.1, .int .i64 x.o.2.2.1, .int .i64 x.o.2.2.2.1, .int .i64 x.o.2.2.2.2, .int .i64 x.an.1, .int .i64 x.an.2.1, .int .i64 x.an.2.2] 43)) = .ok v2 w2 := hrun
        refine oper_app (by rfl) (by rfl) (by rfl) hrun' ?_
        refine hKE _ _ (hTP' _ H2.out.1) ?_
        clear hKE KE
        go_wp2_with (first
          | (apply SeqP.skip; rfl; simp only [Act.put, List.setIfInBounds_toArray, List.set_cons_zero, List.set_cons_succ])
          | (apply SeqP.call; rfl; rfl; (intro w2 hw; have hw := hTP _ hw; (skip); go_simp; exact ⟨rfl, rfl⟩); (intro w2 hw; have hw := hTP _ hw; (skip); (first | fail)); simp only [Act.put, List.setIfInBounds_toArray, List.set_cons_zero, List.set_cons_succ])
          | (apply SeqP.pure; rfl; (intro w2 hw; have hw := hTP _ hw; (skip); go_simp; with_reducible rfl); simp only [Act.put, List.setIfInBounds_toArray, List.set_cons_zero, List.set_cons_succ])
          | (apply SeqP.split; rfl; rfl; all_goals (intro hc; simp only [hc]; try simp only [beq_iff_eq, decide_eq_true_eq, beq_eq_false_iff_ne, decide_eq_false_iff_not, bne_iff_ne, ne_eq, Bool.not_eq_true', Bool.not_eq_false', Int.not_le, Int.not_lt, bne_eq_false_iff_eq, Bool.or_eq_true, Bool.and_eq_true, Bool.or_eq_false_iff] at hc)))
        apply SeqP.nil
        refine hKP _ _ (hTP' _ (H2.out.1)) ?_
        clear hKP hTP hTP'
        go_wp2_with fail
        go_roundg (n - (j + 1))
        case measure => have hkk := AA.out; omega
        case rel => exact ⟨j + 1, L ++ [x], rfl, by omega, by go_num, H2.out.1, H2.out.2.1, by rw [List.map_append, HL.out, layTo_yes HS.out, ← H2.out.2.2]; rfl⟩
    · obtain rfl : j = n := by omega
      have hi7 : ¬ (j : Int) < (j : Int) := by omega
      have HZ := Lib.hid (And.intro (below_trans HA.out.1 hwr HA.out.1.size) (And.intro hR hwr))
      clear hR
      go_wp2_with fail
      go_ret
      exact ⟨_, rfl, L, ⟨Gr.Row.base HZ.out.2.1.1 (by have := HA.out.1.size; omega), HZ.out.2.1.2⟩, HL.out, HZ.out.1⟩
end Go.Proofs.Ytdphfhenjndkkaa

set_option linter.unusedSimpArgs false
set_option linter.unusedVariables false
set_option maxRecDepth 100000
namespace Go.Proofs.Ytdphfhenjndkkaa
open Go Go.RowKit Go.Sq Go.Wd Go.Arch

theorem mails_one (w : World) (x : MailV) (h : LogAt w w.heap.size x.es x.m.ents) : Mails (w.alloc (.cells (mailv x).toArray 43)) (w.alloc (.cells (mailv x).toArray 43)).heap.size (some ⟨w.heap.size, 0, none⟩) [x] := by
  have hs := Gr.Sl.lit (R := mailE) w [x]
  rw [Gr.Enc.flat_one] at hs
  refine ⟨hs.more (by simp), fun y hy => ?_⟩
  obtain rfl : y = x := by simpa using hy
  exact h.keep ((Below.refl _ _).alloc (Nat.le_refl _) _)

def AgS (w w' : World) (g : Nat) (o : OwnS) (r : RegS) (sl : SlcE) (x : MailV) : Prop := Blk w' w.heap.size 37 (rgv r sl) ∧ Blk w' (w.heap.size + 1) 43 (mailv x) ∧ Blk w' g 116 (ownv o)
theorem AgS.keep {w w' w'' : World} {g : Nat} {o : OwnS} {r : RegS} {sl : SlcE} {x : MailV} (h : AgS w w' g o r sl x) (hb : Below w'.heap.size w' w'') : AgS w w'' g o r sl x := ⟨h.1.keep hb, h.2.1.keep hb, h.2.2.keep hb⟩

set_option maxHeartbeats 4000000 in
theorem again_any (g : Nat) (o : OwnS) (r : RegS) (sl : SlcE) (x : MailV) (b : Nat) (now : Int) (w : World) (hb : Blk w g 116 (ownv o)) (hF : FineO o) (hv : r.view = o.epoch) (hl : LogAt w w.heap.size sl r.log) (h2 : r.log.length ≤ 2000) (hm : mineO o x.m 6) (hx : x.m.len = b) :
    Calls Try.prog 34 #[.pointer (some ⟨g, 0, none⟩), .agg (rgv r sl).toArray, .agg (mailv x).toArray, .int .i64 now] w fun e w' =>
      (b ≤ r.log.length → ∃ A s, e = .returned (.slice A 1 1) ∧ Mails w' w'.heap.size A [layV o r x.m.from_ b now s]) ∧ (¬ b ≤ r.log.length → e = .returned (.slice none 0 0)) ∧ Below w.heap.size w w' := by
  obtain ⟨A, k, c⟩ := sl
  have hk : k = r.log.length := hl.1
  have hw0 : Below w.heap.size w ((w.alloc (.cells (rgv r (A, k, c)).toArray 37)).alloc (.cells (mailv x).toArray 43)).drew := (((Below.refl _ _).alloc (Nat.le_refl _) _).alloc (by simp) _).drew
  have B0 : Blk ((w.alloc (.cells (rgv r (A, k, c)).toArray 37)).alloc (.cells (mailv x).toArray 43)).drew w.heap.size 37 (rgv r (A, k, c)) := ((Blk.new w _ _).alloc _).drew
  have B1 : Blk ((w.alloc (.cells (rgv r (A, k, c)).toArray 37)).alloc (.cells (mailv x).toArray 43)).drew (w.heap.size + 1) 43 (mailv x) := (Blk.newAt _ _ _ (by simp)).drew
  have hB2 := hb.keep hw0
  have FC : ∀ w', AgS w w' g o r (A, k, c) x → (w'.cell? ⟨w.heap.size, 1, none⟩ = some (.int .i64 r.view) ∧ w'.cell? ⟨w.heap.size, 2, none⟩ = some (.slice A k c)) ∧ w'.cell? ⟨g, 1, none⟩ = some (.int .i64 o.epoch) ∧ w'.cell? ⟨w.heap.size + 1, 1, none⟩ = some (.int .i64 x.m.from_) ∧ w'.cell? ⟨w.heap.size + 1, 7, none⟩ = some (.int .i64 (b : Int)) := fun w' h => ⟨⟨h.1.cell 1, h.1.cell 2⟩, h.2.2.cell 1, h.2.1.cell 1, by rw [← hx]; exact h.2.1.cell 7⟩
  have lg := hb.lt
  have HA := Lib.hid (And.intro hw0 (And.intro (show AgS w _ g o r (A, k, c) x from ⟨B0, B1, hB2⟩) (And.intro (hl.keep hw0) (And.intro hk (And.intro h2 (And.intro hF hm))))))
  have hne : (r.view != o.epoch) = false := by simpa using hv
  have hb0 : ¬ (b : Int) < 0 := by omega
  have HK := Lib.hid hk
  clear hw0 B0 B1 hB2 hb hF hv hl h2 hk hm hx
  go_enter Try.func34, Try.ntmps34
  go_wp2_with fail
  refine wp_region_p ([(0, true), (1, true), (2, false), (3, true), (4, true), (5, true), (6, true), (7, true), (8, true), (9, true), (10, true), (11, true), (12, true), (13, true), (14, true), (15, true), (16, true), (17, true), (18, true), (19, true), (20, true), (21, true), (22, true), (23, true), (24, true), (25, true)]) (fun w' => AgS w w' g o r (A, k, c) x) (by kernel_rfl) rfl (by kernel_rfl) (by kernel_rfl) (HA.out.2.1) rfl ?_
  intro KP RP TP hKP hTP hTP'
  simp only [List.append_eq, List.cons_append, List.nil_append, pick, nth]
  generalize ((w.alloc (.cells (rgv r (A, k, c)).toArray 37)).alloc (.cells (mailv x).toArray 43)).drew = w1 at *
  go_wp2_with (first
    | (apply SeqP.skip; rfl; simp only [Act.put, List.setIfInBounds_toArray, List.set_cons_zero, List.set_cons_succ])
    | (apply SeqP.pure; rfl; (intro w2 hw; have hw := hTP _ hw; exact exec_load_blk 43 _ rfl _ rfl _ _ (hw.2.1) _ Try.underlying43 rfl mail_info); simp only [Act.put, List.setIfInBounds_toArray, List.set_cons_zero, List.set_cons_succ])
    | (apply SeqP.call; rfl; rfl; (intro w2 hw; have hw := hTP _ hw; ((obtain ⟨⟨q1, q2⟩, r1, r3, r7⟩ := FC _ hw)); go_simp; exact ⟨rfl, rfl⟩); (intro w2 hw; have hw := hTP _ hw; ((obtain ⟨⟨q1, q2⟩, r1, r3, r7⟩ := FC _ hw)); (first | fail)); simp only [Act.put, List.setIfInBounds_toArray, List.set_cons_zero, List.set_cons_succ])
    | (apply SeqP.pure; rfl; (intro w2 hw; have hw := hTP _ hw; ((obtain ⟨⟨q1, q2⟩, r1, r3, r7⟩ := FC _ hw)); go_simp; with_reducible rfl); simp only [Act.put, List.setIfInBounds_toArray, List.set_cons_zero, List.set_cons_succ])
    | (apply SeqP.split; rfl; rfl; all_goals (intro hc; simp only [hc]; try simp only [beq_iff_eq, decide_eq_true_eq, beq_eq_false_iff_ne, decide_eq_false_iff_not, bne_iff_ne, ne_eq, Bool.not_eq_true', Bool.not_eq_false', Int.not_le, Int.not_lt, bne_eq_false_iff_eq, Bool.or_eq_true, Bool.and_eq_true, Bool.or_eq_false_iff] at hc)))
  apply SeqP.eff
  · rfl
  intro KE hKE
  go_wp2_with fail
  refine (mine_any g o x 6 _ HA.out.2.1.2.2 HA.out.2.2.2.2.2.1).mono ?_
  rintro e w2 ⟨rfl, hb2⟩
  have H2 := Lib.hid (And.intro (below_trans HA.out.1 hb2 HA.out.1.size) (And.intro (HA.out.2.1.keep hb2) (And.intro (HA.out.2.2.1.keep hb2) HA.out.2.2.2.2.1)))
  rw [decide_eq_true HA.out.2.2.2.2.2.2]
  clear hb2 HA
  refine hKE _ _ (hTP' _ H2.out.2.1) ?_
  clear hKE KE
  by_cases hbk : k < b
  case pos =>
    have hbi : (k : Int) < (b : Int) := by omega
    have HN : Hid (¬ b ≤ r.log.length) := Lib.hid (by rw [← HK.out]; omega)
    clear hbk
    go_wp2_with (first
      | (apply SeqP.skip; rfl; simp only [Act.put, List.setIfInBounds_toArray, List.set_cons_zero, List.set_cons_succ])
      | (apply SeqP.call; rfl; rfl; (intro w2 hw; have hw := hTP _ hw; ((obtain ⟨⟨q1, q2⟩, r1, r3, r7⟩ := FC _ hw)); go_simp; exact ⟨rfl, rfl⟩); (intro w2 hw; have hw := hTP _ hw; ((obtain ⟨⟨q1, q2⟩, r1, r3, r7⟩ := FC _ hw)); (first | fail)); simp only [Act.put, List.setIfInBounds_toArray, List.set_cons_zero, List.set_cons_succ])
      | (apply SeqP.pure; rfl; (intro w2 hw; have hw := hTP _ hw; ((obtain ⟨⟨q1, q2⟩, r1, r3, r7⟩ := FC _ hw)); go_simp; with_reducible rfl); simp only [Act.put, List.setIfInBounds_toArray, List.set_cons_zero, List.set_cons_succ])
      | (apply SeqP.split; rfl; rfl; all_goals (intro hc; simp only [hc]; try simp only [beq_iff_eq, decide_eq_true_eq, beq_eq_false_iff_ne, decide_eq_false_iff_not, bne_iff_ne, ne_eq, Bool.not_eq_true', Bool.not_eq_false', Int.not_le, Int.not_lt, bne_eq_false_iff_eq, Bool.or_eq_true, Bool.and_eq_true, Bool.or_eq_false_iff] at hc)))
    apply SeqP.nil
    refine hKP _ _ (hTP' _ (H2.out.2.1)) ?_
    clear hKP hTP hTP'
    go_wp2_with fail
    go_ret
    exact ⟨fun h => absurd h HN.out, fun _ => rfl, H2.out.1⟩
  case neg =>
    have hbi : ¬ (k : Int) < (b : Int) := by omega
    have HN : Hid (b ≤ r.log.length) := Lib.hid (by rw [← HK.out]; omega)
    clear hbk
    go_wp2_with (first
      | (apply SeqP.skip; rfl; simp only [Act.put, List.setIfInBounds_toArray, List.set_cons_zero, List.set_cons_succ])
      | (apply SeqP.call; rfl; rfl; (intro w2 hw; have hw := hTP _ hw; ((obtain ⟨⟨q1, q2⟩, r1, r3, r7⟩ := FC _ hw)); go_simp; exact ⟨rfl, rfl⟩); (intro w2 hw; have hw := hTP _ hw; ((obtain ⟨⟨q1, q2⟩, r1, r3, r7⟩ := FC _ hw)); (first | fail)); simp only [Act.put, List.setIfInBounds_toArray, List.set_cons_zero, List.set_cons_succ])
      | (apply SeqP.pure; rfl; (intro w2 hw; have hw := hTP _ hw; ((obtain ⟨⟨q1, q2⟩, r1, r3, r7⟩ := FC _ hw)); go_simp; with_reducible rfl); simp only [Act.put, List.setIfInBounds_toArray, List.set_cons_zero, List.set_cons_succ])
      | (apply SeqP.split; rfl; rfl; all_goals (intro hc; simp only [hc]; try simp only [beq_iff_eq, decide_eq_true_eq, beq_eq_false_iff_ne, decide_eq_false_iff_not, bne_iff_ne, ne_eq, Bool.not_eq_true', Bool.not_eq_false', Int.not_le, Int.not_lt, bne_eq_false_iff_eq, Bool.or_eq_true, Bool.and_eq_true, Bool.or_eq_false_iff] at hc)))
    apply SeqP.nil
    refine hKP _ _ (hTP' _ (H2.out.2.1)) ?_
    clear hKP hTP hTP'
    obtain ⟨⟨q1, q2⟩, r1, r3, r7⟩ := FC _ H2.out.2.1
    go_wp2_with ((with_reducible refine at_list ?_); first | refine wpList_load_blk rfl 37 _ rfl _ rfl _ _ _ (H2.out.2.1.1) Try.underlying37 rfl rg_info ?_)
    refine (lay_any g o r (A, k, c) x.m.from_ b now w2 H2.out.2.1.2.2 H2.out.2.2.1 H2.out.2.2.2 HN.out).mono ?_
    rintro e w3 ⟨s, rfl, hOM⟩
    have hw3 := below_trans H2.out.1 hOM.2.2 H2.out.1.size
    have hO := mails_one w3 _ hOM.1
    have H3 := Lib.hid (And.intro (hw3.alloc hw3.size (.cells (mailv (layV o r x.m.from_ b now s)).toArray 43)) hO)
    clear hw3 hO hOM q1 q2 r1 r3 r7 H2
    generalize hy : layV o r x.m.from_ b now s = y at H3 ⊢
    have HY := Lib.hid hy
    clear hy
    unfold mailv at H3 ⊢
    go_wp2_with fail
    go_ret
    exact ⟨fun _ => ⟨_, s, rfl, by rw [HY.out]; exact H3.out.2⟩, fun h => absurd HN.out h, H3.out.1⟩
end Go.Proofs.Ytdphfhenjndkkaa
