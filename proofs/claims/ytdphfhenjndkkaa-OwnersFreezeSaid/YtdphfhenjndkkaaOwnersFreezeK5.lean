/-
  The walks over owners' New, and the document's.
  The walk over chapter 20's 'made'.
  The facts that chapter 20's lives needs.
  The walk over chapter 20's 'lives'.
  Loads of a piece of mail from amid a slice; the walks over chapter 18's 'beyond' and 'entry'.
  The walk over the statement OwnersFreeze.
  A slice within a struct that comes in.
  Registers and records that come in.
  Structs of numbers that come in, of any number of fields.
  Slices of structs that come in, whatever struct.
  Mail that comes in, and what a ballot begins with.
  Two slices of bytes that come in as an array.
  What an owner begins with, and mail, as they come in.
-/
import Derived.Deep.LoopGhost
import Derived.Test.YtdphfhenjndkkaaOwnersFreezeK1
import Derived.Test.YtdphfhenjndkkaaOwnersFreezeK2
import Derived.Test.YtdphfhenjndkkaaOwnersFreezeK3
import Derived.Test.YtdphfhenjndkkaaOwnersFreezeK4
set_option linter.unusedSimpArgs false
set_option linter.unusedVariables false
set_option maxRecDepth 100000
namespace Go.Proofs.Ytdphfhenjndkkaa
open Go Go.RowKit Go.Sq Go.Wd Go.Arch

/-- Stamps told by these sites. -/
def stFold (l : List Int) (stamp : Int) (f : Nat → Int) : Nat → Int := l.foldl (fun f i => up7 f i.toNat stamp) f
theorem stFold_snoc (l : List Int) (i stamp : Int) (f : Nat → Int) : stFold (l ++ [i]) stamp f = up7 (stFold l stamp f) i.toNat stamp := by
  unfold stFold
  rw [List.foldl_append]
  rfl
def madeO (stream epoch site n stamp : Int) (l : List Int) : OwnS := ⟨stream, epoch, site, n, fun _ => -1, stFold l stamp (fun _ => -1), false, 0⟩
/-- The first j of them are told. -/
def lessTo (j : Nat) : Nat → Int := fun i => if i < j then -1 else 0
theorem lessTo_up (j : Nat) : up7 (lessTo j) j (-1) = lessTo (j + 1) := by
  funext i
  unfold up7 lessTo
  by_cases h : i = j
  · subst h
    rw [if_pos rfl, if_pos (by omega)]
  · rw [if_neg h]
    by_cases h2 : i < j
    · rw [if_pos h2, if_pos (by omega)]
    · rw [if_neg h2, if_neg (by omega)]
theorem own_less (stream epoch site n : Int) : ownv ⟨stream, epoch, site, n, lessTo 7, lessTo 7, false, 0⟩ = ownv ⟨stream, epoch, site, n, fun _ => -1, fun _ => -1, false, 0⟩ := rfl
theorem sites_in {S : Slots} {i : Int} (h : i ∈ sitesTo S 7) : 0 ≤ i ∧ i < 7 := by
  unfold sitesTo at h
  obtain ⟨k, hk, he⟩ := List.mem_filterMap.1 h
  cases hS : S k with
  | none => rw [hS] at he; cases he
  | some r =>
    rw [hS] at he
    obtain rfl : (k : Int) = i := by simpa using he
    have : k < 7 := by simpa using hk
    omega

set_option maxHeartbeats 4000000 in
theorem rnew20_any (stream epoch site n stamp : Int) (l : List Int) (A : Option Addr) (c : Nat) (w : World) (hl : Nums w w.heap.size A .i64 l) (hll : l.length ≤ 9223372036854775807) (hin : ∀ i ∈ l, 0 ≤ i ∧ i < 7) :
    Calls Try.prog 55 #[.int .i64 stream, .int .i64 epoch, .int .i64 site, .int .i64 n, .int .i64 stamp, .slice A l.length c] w fun e w' => ∃ g, e = .returned (.pointer (some ⟨g, 0, none⟩)) ∧ w.heap.size ≤ g ∧ Blk w' g 78 (ownv (madeO stream epoch site n stamp l)) ∧ Below w.heap.size w w' := by
  have hw0 : Below w.heap.size w (w.alloc (.cells (ownv ⟨stream, epoch, site, n, lessTo 0, lessTo 0, false, 0⟩).toArray 78)) := (Below.refl _ _).alloc (Nat.le_refl _) _
  have HB := Lib.hid (And.intro hw0 (Blk.new w 78 (ownv ⟨stream, epoch, site, n, lessTo 0, lessTo 0, false, 0⟩)))
  have HL := Lib.hid (And.intro hl hin)
  clear hw0 hl hin
  go_enter Try.func55, Try.ntmps55
  go_wp2_with fail
  go_loopg [14] 7 (fun q i wr => ∃ j : Nat, q = 7 - j ∧ j ≤ 7 ∧ i = .int .i64 j ∧ Below w.heap.size w wr ∧ Blk wr w.heap.size 78 (ownv ⟨stream, epoch, site, n, lessTo j, lessTo j, false, 0⟩))
  case atStart => exact ⟨0, rfl, by omega, rfl, HB.out.1, HB.out.2⟩
  case round =>
    clear HB
    obtain ⟨j, hq, hj, rfl, hwr, hB⟩ := hrel
    have AA : Aside (gk = 7 - j) := hq
    clear hq
    obtain ⟨wo, rfl⟩ : ∃ wo, wo = wr := ⟨_, rfl⟩
    by_cases hlt : j < 7
    · have j0 : (0 : Int) ≤ (j : Int) := by omega
      have j1 : (j : Int) < 7 := by omega
      have c1 : wo.cell? ⟨w.heap.size, 4 + j, none⟩ = some (.int .i64 (lessTo j j)) := by rw [hB.cell, ownv_has _ hlt]
      have f1 : wo.frozen? ⟨w.heap.size, 4 + j, none⟩ = false := hB.frozen _
      have B2 := hB.set (4 + j) (.int .i64 (-1))
      rw [ownv_setHas _ hlt] at B2
      have c2 : (wo.setCell ⟨w.heap.size, 4 + j, none⟩ (.int .i64 (-1))).cell? ⟨w.heap.size, 11 + j, none⟩ = some (.int .i64 (lessTo j j)) := by rw [B2.cell, ownv_st _ hlt]
      have f2 : (wo.setCell ⟨w.heap.size, 4 + j, none⟩ (.int .i64 (-1))).frozen? ⟨w.heap.size, 11 + j, none⟩ = false := B2.frozen _
      have B3 := B2.set (11 + j) (.int .i64 (-1))
      rw [ownv_setSt _ hlt] at B3
      simp only [lessTo_up] at B3
      have hg3 : wo.grownBy ((wo.setCell ⟨w.heap.size, 4 + j, none⟩ (.int .i64 (-1))).setCell ⟨w.heap.size, 11 + j, none⟩ (.int .i64 (-1))) (some w.heap.size) := by (repeat (first | with_reducible apply only_drew | with_reducible refine only_setCell ?_ (by first | exact Or.inl rfl | (right; simp; done) | (right; simp; omega) | (right; omega)) _ | with_reducible refine only_alloc ?_ _ | with_reducible exact World.grownBy.refl _ _ | with_reducible assumption))
      have H3 := Lib.hid (And.intro (hwr.trans (Go.Wd.below_grown hg3 (Nat.le_refl _) hwr.size)) B3)
      clear B2 B3 hB hwr hg3
      go_wp2_with fail
      go_roundg (7 - (j + 1))
      case measure => have hkk := AA.out; omega
      case rel => exact ⟨j + 1, rfl, by omega, by go_num, H3.out.1, H3.out.2⟩
    · obtain rfl : j = 7 := by omega
      rw [own_less] at hB
      have H3 := Lib.hid (And.intro hwr hB)
      clear hB hwr
      go_wp2_with fail
      go_loopg [15] l.length (fun q i wr => ∃ t : Nat, q = l.length - t ∧ t ≤ l.length ∧ i = .int .i64 t ∧ Below w.heap.size w wr ∧ Blk wr w.heap.size 78 (ownv (madeO stream epoch site n stamp (l.take t))))
      case atStart => exact ⟨0, rfl, by omega, rfl, H3.out.1, H3.out.2⟩
      case round =>
        clear H3 AA
        obtain ⟨t, hq, ht, rfl, hwr, hB⟩ := hrel
        have AA : Aside (gk = l.length - t) := hq
        clear hq
        obtain ⟨wp, rfl⟩ : ∃ wp, wp = wr := ⟨_, rfl⟩
        by_cases hlt2 : t < l.length
        · have t0 : (0 : Int) ≤ (t : Int) := by omega
          have t1 : (t : Int) < (l.length : Int) := by omega
          obtain ⟨b1, o1, x, rfl, hx, FX⟩ := HL.out.1.at_ hlt2
          have hxb := HL.out.2 x (List.mem_of_getElem? hx.out)
          obtain ⟨K, hK⟩ := Int.eq_ofNat_of_zero_le hxb.1
          have hK7 : K < 7 := by omega
          have k0 : (0 : Int) ≤ (K : Int) := by omega
          have k7 : (K : Int) < 7 := by omega
          have htk : madeO stream epoch site n stamp (l.take (t + 1)) = { madeO stream epoch site n stamp (l.take t) with st := up7 (madeO stream epoch site n stamp (l.take t)).st K stamp } := by
            unfold madeO
            rw [List.take_add_one, hx.out]
            show OwnS.mk _ _ _ _ _ (stFold (l.take t ++ [x]) stamp _) _ _ = _
            rw [stFold_snoc, show x.toNat = K by omega]
          have FC : ∀ w', Below w.heap.size w w' → w'.cell? ⟨b1, o1 + t, none⟩ = some (.int .i64 (K : Int)) := fun w' h => by rw [← hK]; exact FX w' h
          have hwd := hwr.drew
          have hBd := hB.drew
          have HT := Lib.hid htk
          clear hK hxb hx FX htk
          go_wp2_with fail
          refine wp_region_p ([(0, true), (1, true), (2, true), (3, true), (4, true), (5, true), (6, true), (7, true), (8, true), (9, false)]) (fun w' => Below w.heap.size w w') (by kernel_rfl) rfl (by kernel_rfl) (by kernel_rfl) (hwd) rfl ?_
          intro KP RP TP hKP hTP hTP'
          simp only [List.append_eq, List.cons_append, List.nil_append, pick, nth]
          go_wp2_with (first
            | (apply SeqP.skip; rfl; simp only [Act.put, List.setIfInBounds_toArray, List.set_cons_zero, List.set_cons_succ])
            | (apply SeqP.call; rfl; rfl; (intro w2 hw; have hw := hTP _ hw; ((have q1 := FC _ hw)); go_simp; exact ⟨rfl, rfl⟩); (intro w2 hw; have hw := hTP _ hw; ((have q1 := FC _ hw)); (first | fail)); simp only [Act.put, List.setIfInBounds_toArray, List.set_cons_zero, List.set_cons_succ])
            | (apply SeqP.pure; rfl; (intro w2 hw; have hw := hTP _ hw; ((have q1 := FC _ hw)); go_simp; with_reducible rfl); simp only [Act.put, List.setIfInBounds_toArray, List.set_cons_zero, List.set_cons_succ])
            | (apply SeqP.split; rfl; rfl; all_goals (intro hc; simp only [hc]; try simp only [beq_iff_eq, decide_eq_true_eq, beq_eq_false_iff_ne, decide_eq_false_iff_not, bne_iff_ne, ne_eq, Bool.not_eq_true', Bool.not_eq_false', Int.not_le, Int.not_lt, bne_eq_false_iff_eq, Bool.or_eq_true, Bool.and_eq_true, Bool.or_eq_false_iff] at hc)))
          have c2 : wp.drew.cell? ⟨w.heap.size, 11 + K, none⟩ = some (.int .i64 ((madeO stream epoch site n stamp (l.take t)).st K)) := by rw [hBd.cell, ownv_st _ hK7]
          have f2 : wp.drew.frozen? ⟨w.heap.size, 11 + K, none⟩ = false := hBd.frozen _
          have B3 := hBd.set (11 + K) (.int .i64 stamp)
          rw [ownv_setSt _ hK7, ← HT.out] at B3
          have hg3 : wp.drew.grownBy (wp.drew.setCell ⟨w.heap.size, 11 + K, none⟩ (.int .i64 stamp)) (some w.heap.size) := only_setCell (World.grownBy.refl wp.drew _) (.inl rfl) _
          have H3 := Lib.hid (And.intro (hwd.trans (Go.Wd.below_grown hg3 (Nat.le_refl _) hwd.size)) B3)
          clear B3 hg3 hBd hB
          generalize wp.drew = wd at *
          apply SeqP.eff
          · rfl
          intro KE hKE
          go_wp2_with fail
          refine hKE _ _ (hTP' _ H3.out.1) ?_
          clear hKE KE
          apply SeqP.nil
          refine hKP _ _ (hTP' _ (H3.out.1)) ?_
          clear hKP hTP hTP'
          go_wp2_with fail
          go_roundg (l.length - (t + 1))
          case measure => have hkk := AA.out; omega
          case rel => exact ⟨t + 1, rfl, by omega, by go_num, H3.out.1, H3.out.2⟩
        · obtain rfl : t = l.length := by omega
          have t1 : ¬ (l.length : Int) < (l.length : Int) := by omega
          rw [List.take_length] at hB
          have H3 := Lib.hid (And.intro hwr hB)
          clear hB hwr
          go_wp2_with fail
          go_ret
          exact ⟨w.heap.size, rfl, Nat.le_refl _, H3.out.2, H3.out.1⟩

def ONewPost (stream : Int) (b : BegS) (S : Slots) (w : World) (e : Ending) (w' : World) : Prop :=
  (wonS b S = true ∧ ∃ h, e = .returned (.tuple #[.pointer (some ⟨h, 0, none⟩), .int .i64 0]) ∧ w.heap.size ≤ h ∧ Blk w' h 116 (ownv (madeO stream b.epoch b.site b.n b.stamp (sitesTo S 7))) ∧ Below w.heap.size w w') ∨
  (wonS b S = false ∧ e = .returned (.tuple #[.pointer none, .int .i64 2]) ∧ Below w.heap.size w w')

set_option maxHeartbeats 8000000 in
theorem onew_any (stream : Int) (B g : Nat) (b : BegS) (S : Slots) (w : World) (H : BalAt w B g b S) (hs0 : 0 ≤ stream) (hs4 : stream < 4) (hn : sitesE b.n = true) (hp0 : 0 ≤ b.site) (hpn : b.site < b.n) (hof : ofE b.epoch b.n = b.site) :
    Calls Try.prog 51 #[.int .i64 stream, .int .i64 b.site, .int .i64 b.n, .pointer (some ⟨g, 0, none⟩)] w fun e w' => ONewPost stream b S w e w' := by
  have hn0 : b.n ≠ 0 := by rcases sites_cases hn with e | e | e | e | e | e <;> omega
  have hn7 : b.n ≤ 7 := by have := sites_cases hn; omega
  obtain ⟨sl, hb, hr⟩ := H
  have HB := Lib.hid (show BalAt w B g b S from ⟨sl, hb, hr⟩)
  have hw := won_any g b S sl w hb hn0
  have HW := Lib.hid hw
  clear hw hb hr
  cases hwon : wonS b S with
  | false =>
    rw [hwon] at HW
    have HO := Lib.hid hwon
    clear hwon
    go_enter Try.func51, Try.ntmps51
    go_wp2_with fail
    refine HW.out.mono ?_
    rintro e w1 ⟨rfl, hb1⟩
    go_wp2_with fail
    go_ret2
    exact .inr ⟨HO.out, rfl, hb1⟩
  | true =>
  rw [hwon] at HW
  have HO := Lib.hid hwon
  clear hwon
  have g1 : ¬ stream < 0 := by omega
  have g2 : ¬ (4 : Int) ≤ stream := by omega
  have g3 : ¬ b.site < 0 := by omega
  have g4 : ¬ b.n ≤ b.site := by omega
  have g5 : ¬ (7 : Int) < b.n := by omega
  have g6 : (ofE b.epoch b.n != b.site) = false := by simpa using hof
  clear hof
  go_enter Try.func51, Try.ntmps51
  go_wp2_with fail
  refine HW.out.mono ?_
  rintro e w1 ⟨rfl, hb1⟩
  have H1 := Lib.hid (HB.out.keep hb1)
  have HW1 := Lib.hid hb1
  clear HW hb1
  go_wp2_with fail
  refine (bepoch_any B g b S w1 H1.out hn0).mono ?_
  rintro e w2 ⟨rfl, rfl⟩
  go_wp2_with fail
  refine (of_any _ _ _).mono ?_
  rintro e w3 ⟨rfl, rfl⟩
  go_wp2_with fail
  refine (bepoch_any B g b S w3 H1.out hn0).mono ?_
  rintro e w4 ⟨rfl, rfl⟩
  have hw0 := HW1.out.alloc HW1.out.size (.cells (ownv ⟨stream, b.epoch, b.site, b.n, lessTo 0, lessTo 0, false, 0⟩).toArray 116)
  have HX := Lib.hid (And.intro hw0 (And.intro (Blk.new w4 116 (ownv ⟨stream, b.epoch, b.site, b.n, lessTo 0, lessTo 0, false, 0⟩)) (H1.out.keep ((Below.refl _ _).alloc (Nat.le_refl _) (.cells (ownv ⟨stream, b.epoch, b.site, b.n, lessTo 0, lessTo 0, false, 0⟩).toArray 116)))))
  have hgw : w.heap.size ≤ w4.heap.size := HW1.out.size
  have hgh : g < w4.heap.size := H1.out.lt
  clear hw0
  go_wp2_with fail
  obtain ⟨h, hh⟩ : ∃ h, w4.heap.size = h := ⟨_, rfl⟩
  rw [hh] at HX hgw hgh ⊢
  go_loopg [53] 7 (fun q i wr => ∃ j : Nat, q = 7 - j ∧ j ≤ 7 ∧ i = .int .i64 j ∧ Below w.heap.size w wr ∧ Blk wr h 116 (ownv ⟨stream, b.epoch, b.site, b.n, lessTo j, lessTo j, false, 0⟩) ∧ BalAt wr B g b S)
  case atStart => exact ⟨0, rfl, by omega, rfl, HX.out.1, HX.out.2.1, HX.out.2.2⟩
  case round =>
    clear HX
    obtain ⟨j, hq, hj, rfl, hwr, hB, hBal⟩ := hrel
    have AA : Aside (gk = 7 - j) := hq
    clear hq
    obtain ⟨wo, rfl⟩ : ∃ wo, wo = wr := ⟨_, rfl⟩
    by_cases hlt : j < 7
    · have j0 : (0 : Int) ≤ (j : Int) := by omega
      have j1 : (j : Int) < 7 := by omega
      have hwd := hwr.drew
      have hBd := hB.drew
      have c1 : wo.drew.cell? ⟨h, 4 + j, none⟩ = some (.int .i64 (lessTo j j)) := by rw [hBd.cell, ownv_has _ hlt]
      have f1 : wo.drew.frozen? ⟨h, 4 + j, none⟩ = false := hBd.frozen _
      have B2 := hBd.set (4 + j) (.int .i64 (-1))
      rw [ownv_setHas _ hlt] at B2
      have c2 : (wo.drew.setCell ⟨h, 4 + j, none⟩ (.int .i64 (-1))).cell? ⟨h, 11 + j, none⟩ = some (.int .i64 (lessTo j j)) := by rw [B2.cell, ownv_st _ hlt]
      have f2 : (wo.drew.setCell ⟨h, 4 + j, none⟩ (.int .i64 (-1))).frozen? ⟨h, 11 + j, none⟩ = false := B2.frozen _
      have B3 := B2.set (11 + j) (.int .i64 (-1))
      rw [ownv_setSt _ hlt] at B3
      simp only [lessTo_up] at B3
      have hg2 : wo.drew.grownBy (wo.drew.setCell ⟨h, 4 + j, none⟩ (.int .i64 (-1))) (some h) := only_setCell (World.grownBy.refl wo.drew _) (.inl rfl) _
      have hg3 : wo.drew.grownBy ((wo.drew.setCell ⟨h, 4 + j, none⟩ (.int .i64 (-1))).setCell ⟨h, 11 + j, none⟩ (.int .i64 (-1))) (some h) := only_setCell hg2 (.inl rfl) _
      have hbd : Below wo.heap.size wo wo.drew := (Below.refl _ _).drew
      have hbn : BalAt ((wo.drew.setCell ⟨h, 4 + j, none⟩ (.int .i64 (-1))).setCell ⟨h, 11 + j, none⟩ (.int .i64 (-1))) B g b S :=
        (hBal.keep hbd).kept (Kept.ofGrown (r2 := none) hg3) (fun e => by have := Option.some.inj e; omega) (by simp) (fun q e => by cases e; exact blk_not hBd (by decide)) (fun q e => by cases e)
      have H2 := Lib.hid (And.intro hwd (hwd.trans (Go.Wd.below_grown hg2 hgw hwd.size)))
      have H3 := Lib.hid (And.intro (hwd.trans (Go.Wd.below_grown hg3 hgw hwd.size)) (And.intro B3 hbn))
      clear B2 B3 hB hwr hg3 hg2 hbd hbn hBal hBd hwd
      go_wp2_with fail
      refine wp_region_p ([(0, true), (1, true), (2, true), (3, true), (4, true), (5, true), (6, true), (8, true), (9, true), (7, false), (10, true), (11, false)]) (fun w' => Below w.heap.size w w') (by kernel_rfl) rfl (by kernel_rfl) (by kernel_rfl) (H2.out.1) rfl ?_
      intro KP RP TP hKP hTP hTP'
      simp only [List.append_eq, List.cons_append, List.nil_append, pick, nth]
      generalize wo.drew = wd at *
      go_wp2_with (first
        | (apply SeqP.skip; rfl; simp only [Act.put, List.setIfInBounds_toArray, List.set_cons_zero, List.set_cons_succ])
        | (apply SeqP.call; rfl; rfl; (intro w2 hw; have hw := hTP _ hw; (skip); go_simp; exact ⟨rfl, rfl⟩); (intro w2 hw; have hw := hTP _ hw; (skip); (first | fail)); simp only [Act.put, List.setIfInBounds_toArray, List.set_cons_zero, List.set_cons_succ])
        | (apply SeqP.pure; rfl; (intro w2 hw; have hw := hTP _ hw; (skip); go_simp; with_reducible rfl); simp only [Act.put, List.setIfInBounds_toArray, List.set_cons_zero, List.set_cons_succ])
        | (apply SeqP.split; rfl; rfl; all_goals (intro hc; simp only [hc]; try simp only [beq_iff_eq, decide_eq_true_eq, beq_eq_false_iff_ne, decide_eq_false_iff_not, bne_iff_ne, ne_eq, Bool.not_eq_true', Bool.not_eq_false', Int.not_le, Int.not_lt, bne_eq_false_iff_eq, Bool.or_eq_true, Bool.and_eq_true, Bool.or_eq_false_iff] at hc)))
      apply SeqP.eff
      · rfl
      intro KE hKE
      go_wp2_with fail
      refine hKE _ _ (hTP' _ H2.out.2) ?_
      clear hKE KE
      go_wp2_with (first
        | (apply SeqP.skip; rfl; simp only [Act.put, List.setIfInBounds_toArray, List.set_cons_zero, List.set_cons_succ])
        | (apply SeqP.call; rfl; rfl; (intro w2 hw; have hw := hTP _ hw; (skip); go_simp; exact ⟨rfl, rfl⟩); (intro w2 hw; have hw := hTP _ hw; (skip); (first | fail)); simp only [Act.put, List.setIfInBounds_toArray, List.set_cons_zero, List.set_cons_succ])
        | (apply SeqP.pure; rfl; (intro w2 hw; have hw := hTP _ hw; (skip); go_simp; with_reducible rfl); simp only [Act.put, List.setIfInBounds_toArray, List.set_cons_zero, List.set_cons_succ])
        | (apply SeqP.split; rfl; rfl; all_goals (intro hc; simp only [hc]; try simp only [beq_iff_eq, decide_eq_true_eq, beq_eq_false_iff_ne, decide_eq_false_iff_not, bne_iff_ne, ne_eq, Bool.not_eq_true', Bool.not_eq_false', Int.not_le, Int.not_lt, bne_eq_false_iff_eq, Bool.or_eq_true, Bool.and_eq_true, Bool.or_eq_false_iff] at hc)))
      apply SeqP.eff
      · rfl
      intro KE hKE
      go_wp2_with fail
      refine hKE _ _ (hTP' _ H3.out.1) ?_
      clear hKE KE
      apply SeqP.nil
      refine hKP _ _ (hTP' _ (H3.out.1)) ?_
      clear hKP hTP hTP'
      go_wp2_with fail
      go_roundg (7 - (j + 1))
      case measure => have hkk := AA.out; omega
      case rel => exact ⟨j + 1, rfl, by omega, by go_num, H3.out.1, H3.out.2.1, H3.out.2.2⟩
    · obtain rfl : j = 7 := by omega
      rw [own_less] at hB
      obtain ⟨slo, hbo, _⟩ := id hBal
      have hbs := bsites_any g b S slo wo hbo hn0
      have HBS := Lib.hid hbs
      have H3 := Lib.hid (And.intro hwr (And.intro hB hBal))
      clear hB hwr hBal hbo hbs
      go_wp2_with fail
      refine HBS.out.mono ?_
      clear HBS
      rintro e w5 ⟨v5, rfl, hR5, hb5⟩
      obtain ⟨A, c, rfl, _, _, hNu⟩ := RowI.form hR5
      have H5 := Lib.hid (show Below w.heap.size w w5 ∧ Blk w5 h 116 (ownv (madeO stream b.epoch b.site b.n b.stamp [])) ∧ BalAt w5 B g b S ∧ RowI w5 wo.heap.size (.slice A (sitesTo S 7).length c) (sitesTo S 7) from
        ⟨below_trans H3.out.1 hb5 H3.out.1.size, H3.out.2.1.keep hb5, H3.out.2.2.keep hb5, hR5⟩)
      have hsi := fun i (hi : i ∈ sitesTo S 7) => sites_in hi
      obtain ⟨L, hL⟩ : ∃ L, sitesTo S 7 = L := ⟨_, rfl⟩
      have HO2 := Lib.hid (And.intro HO.out hL)
      rw [hL] at H5 hsi ⊢
      have HS := Lib.hid hsi
      have hl7 : L.length ≤ 7 := by
        rw [← hL, sitesTo_len]
        exact listTo_len S 7
      clear hR5 hb5 H3 hNu hsi hL
      go_wp2_with fail
      go_loopg [70] L.length (fun q i wr => ∃ t : Nat, q = L.length - t ∧ t ≤ L.length ∧ i = .int .i64 t ∧ Below w.heap.size w wr ∧ Blk wr h 116 (ownv (madeO stream b.epoch b.site b.n b.stamp (L.take t))) ∧ BalAt wr B g b S ∧ RowI wr wo.heap.size (.slice A L.length c) L)
      case atStart => exact ⟨0, rfl, by omega, rfl, H5.out.1, H5.out.2.1, H5.out.2.2.1, H5.out.2.2.2⟩
      case round =>
        clear H5 AA
        obtain ⟨t, hq, ht, rfl, hwr, hB, hBal, hRow⟩ := hrel
        have AA : Aside (gk = L.length - t) := hq
        clear hq
        obtain ⟨wp, rfl⟩ : ∃ wp, wp = wr := ⟨_, rfl⟩
        by_cases hlt2 : t < L.length
        · have t0 : (0 : Int) ≤ (t : Int) := by omega
          have t1 : (t : Int) < (L.length : Int) := by omega
          obtain ⟨A', c', he, _, _, hNu⟩ := RowI.form hRow
          cases he
          obtain ⟨b1, o1, x, rfl, hx, FX⟩ := hNu.at_ hlt2
          have hxb := HS.out x (List.mem_of_getElem? hx.out)
          obtain ⟨K, hK⟩ := Int.eq_ofNat_of_zero_le hxb.1
          have hK7 : K < 7 := by omega
          have k0 : (0 : Int) ≤ (K : Int) := by omega
          have k7 : (K : Int) < 7 := by omega
          have htk : madeO stream b.epoch b.site b.n b.stamp (L.take (t + 1)) = { madeO stream b.epoch b.site b.n b.stamp (L.take t) with st := up7 (madeO stream b.epoch b.site b.n b.stamp (L.take t)).st K b.stamp } := by
            unfold madeO
            rw [List.take_add_one, hx.out]
            show OwnS.mk _ _ _ _ _ (stFold (L.take t ++ [x]) b.stamp _) _ _ = _
            rw [stFold_snoc, show x.toNat = K by omega]
          have cx : wp.cell? ⟨b1, o1 + t, none⟩ = some (.int .i64 (K : Int)) := by rw [← hK]; exact FX wp (Below.refl _ _)
          have hbd : Below wp.heap.size wp wp.drew := (Below.refl _ _).drew
          have hwd := hwr.drew
          have hBd := hB.drew
          have hBald := hBal.keep hbd
          have hRd := hRow.keep hbd
          have HT := Lib.hid htk
          clear hK hxb hx FX htk hB hBal hRow hbd hNu
          go_wp2_with fail
          refine wp_region_p ([(0, true), (1, true), (2, true), (4, true), (5, true), (3, false), (6, true), (7, false)]) (fun w' => Below w.heap.size w w') (by kernel_rfl) rfl (by kernel_rfl) (by kernel_rfl) (hwd) rfl ?_
          intro KP RP TP hKP hTP hTP'
          simp only [List.append_eq, List.cons_append, List.nil_append, pick, nth]
          have c2 : wp.drew.cell? ⟨h, 11 + K, none⟩ = some (.int .i64 ((madeO stream b.epoch b.site b.n b.stamp (L.take t)).st K)) := by rw [hBd.cell, ownv_st _ hK7]
          have f2 : wp.drew.frozen? ⟨h, 11 + K, none⟩ = false := hBd.frozen _
          have B3 := hBd.set (11 + K) (.int .i64 b.stamp)
          rw [ownv_setSt _ hK7, ← HT.out] at B3
          have hg3 : wp.drew.grownBy (wp.drew.setCell ⟨h, 11 + K, none⟩ (.int .i64 b.stamp)) (some h) := only_setCell (World.grownBy.refl wp.drew _) (.inl rfl) _
          have hbn : BalAt (wp.drew.setCell ⟨h, 11 + K, none⟩ (.int .i64 b.stamp)) B g b S := hBald.kept (Kept.ofGrown (r2 := none) hg3) (fun e => by have := Option.some.inj e; omega) (by simp) (fun q e => by cases e; exact blk_not hBd (by decide)) (fun q e => by cases e)
          have hrn : RowI (wp.drew.setCell ⟨h, 11 + K, none⟩ (.int .i64 b.stamp)) wo.heap.size (.slice (some ⟨b1, o1, none⟩) L.length c) L := own_beside hRd hg3 (blk_not hBd (by decide))
          have H3 := Lib.hid (And.intro (hwd.trans (Go.Wd.below_grown hg3 hgw hwd.size)) (And.intro B3 (And.intro hbn hrn)))
          have H4 := Lib.hid (And.intro hwd hBald)
          clear B3 hg3 hBd hbn hrn hBald hRd hwd cx
          generalize wp.drew = wd at *
          go_wp2_with (first
            | (apply SeqP.skip; rfl; simp only [Act.put, List.setIfInBounds_toArray, List.set_cons_zero, List.set_cons_succ])
            | (apply SeqP.call; rfl; rfl; (intro w2 hw; have hw := hTP _ hw; (skip); go_simp; exact ⟨rfl, rfl⟩); (intro w2 hw; have hw := hTP _ hw; (skip); (first | fail)); simp only [Act.put, List.setIfInBounds_toArray, List.set_cons_zero, List.set_cons_succ])
            | (apply SeqP.pure; rfl; (intro w2 hw; have hw := hTP _ hw; (skip); go_simp; with_reducible rfl); simp only [Act.put, List.setIfInBounds_toArray, List.set_cons_zero, List.set_cons_succ])
            | (apply SeqP.split; rfl; rfl; all_goals (intro hc; simp only [hc]; try simp only [beq_iff_eq, decide_eq_true_eq, beq_eq_false_iff_ne, decide_eq_false_iff_not, bne_iff_ne, ne_eq, Bool.not_eq_true', Bool.not_eq_false', Int.not_le, Int.not_lt, bne_eq_false_iff_eq, Bool.or_eq_true, Bool.and_eq_true, Bool.or_eq_false_iff] at hc)))
          apply SeqP.eff
          · rfl
          intro KE hKE
          go_wp2_with fail
          refine (bstamp_any B g b S wd H4.out.2 hn0).mono ?_
          rintro e w6 ⟨rfl, rfl⟩
          refine hKE _ _ (hTP' _ H4.out.1) ?_
          clear hKE KE
          go_wp2_with (first
            | (apply SeqP.skip; rfl; simp only [Act.put, List.setIfInBounds_toArray, List.set_cons_zero, List.set_cons_succ])
            | (apply SeqP.call; rfl; rfl; (intro w2 hw; have hw := hTP _ hw; (skip); go_simp; exact ⟨rfl, rfl⟩); (intro w2 hw; have hw := hTP _ hw; (skip); (first | fail)); simp only [Act.put, List.setIfInBounds_toArray, List.set_cons_zero, List.set_cons_succ])
            | (apply SeqP.pure; rfl; (intro w2 hw; have hw := hTP _ hw; (skip); go_simp; with_reducible rfl); simp only [Act.put, List.setIfInBounds_toArray, List.set_cons_zero, List.set_cons_succ])
            | (apply SeqP.split; rfl; rfl; all_goals (intro hc; simp only [hc]; try simp only [beq_iff_eq, decide_eq_true_eq, beq_eq_false_iff_ne, decide_eq_false_iff_not, bne_iff_ne, ne_eq, Bool.not_eq_true', Bool.not_eq_false', Int.not_le, Int.not_lt, bne_eq_false_iff_eq, Bool.or_eq_true, Bool.and_eq_true, Bool.or_eq_false_iff] at hc)))
          apply SeqP.eff
          · rfl
          intro KE hKE
          go_wp2_with fail
          refine hKE _ _ (hTP' _ H3.out.1) ?_
          clear hKE KE
          apply SeqP.nil
          refine hKP _ _ (hTP' _ (H3.out.1)) ?_
          clear hKP hTP hTP'
          go_wp2_with fail
          go_roundg (L.length - (t + 1))
          case measure => have hkk := AA.out; omega
          case rel => exact ⟨t + 1, rfl, by omega, by go_num, H3.out.1, H3.out.2.1, H3.out.2.2.1, H3.out.2.2.2⟩
        · obtain rfl : t = L.length := by omega
          have t1 : ¬ (L.length : Int) < (L.length : Int) := by omega
          rw [List.take_length] at hB
          have H3 := Lib.hid (And.intro hwr hB)
          clear hB hwr hRow hBal
          go_wp2_with fail
          go_ret2
          refine .inl ⟨HO2.out.1, h, rfl, hgw, ?_, H3.out.1⟩
          rw [HO2.out.2]
          exact H3.out.2
end Go.Proofs.Ytdphfhenjndkkaa

set_option linter.unusedSimpArgs false
set_option linter.unusedVariables false
set_option maxRecDepth 100000
namespace Go.Proofs.Ytdphfhenjndkkaa
open Go Go.RowKit Go.Sq Go.Wd Go.Arch

/-- What owners begin with: sizes, the site, the stamp, who has promised. -/
structure MkS where
  sz : Int
  si : Int
  stamp : Int
  who : List Int
def mkN (x : MkS) : Int := 2 + x.sz % 6
def mkSite (x : MkS) : Int := x.si % mkN x
def mkEp (x : MkS) : Int := (nextE 4 (mkSite x) (mkN x)).1
def mkB (x : MkS) : BegS := ⟨1, mkEp x, mkSite x, mkN x, x.stamp⟩
def mkReg (x : MkS) : RegS := ⟨mkEp x, 0, [], 0⟩
def mkMail (x : MkS) (k : Int) : MailS := ⟨2, k % mkN x, mkSite x, 1, mkEp x, 0, 0, 0, x.stamp, []⟩
def mkS0 (x : MkS) : Slots := put7 no7 (mkSite x).toNat (mkReg x)
def mkTo (x : MkS) (j : Nat) : Slots := (x.who.take j).foldl (fun S k => addS (mkB x) S (mkMail x k)) (mkS0 x)
theorem mkTo_next {x : MkS} {j : Nat} {k : Int} (h : x.who[j]? = some k) : mkTo x (j + 1) = addS (mkB x) (mkTo x j) (mkMail x k) := by
  unfold mkTo
  rw [List.take_add_one, h]
  show List.foldl _ _ (x.who.take j ++ [k]) = _
  rw [List.foldl_append]
  rfl
def mkSl (x : MkS) : Slots := mkTo x (min x.who.length 20)
/-- The owner that is made. -/
def mkO (x : MkS) : OwnS := madeO 1 (mkEp x) (mkSite x) (mkN x) x.stamp (sitesTo (mkSl x) 7)
def mkWon (x : MkS) : Bool := wonS (mkB x) (mkSl x)
def FineX (x : MkS) : Prop := (0 ≤ x.sz ∧ x.sz ≤ 255) ∧ (0 ≤ x.si ∧ x.si ≤ 255) ∧ (0 ≤ x.stamp ∧ x.stamp ≤ 65535) ∧ ∀ k ∈ x.who, 0 ≤ k ∧ k ≤ 255
theorem mk_n {x : MkS} (h : FineX x) : sitesE (mkN x) = true ∧ 0 ≤ mkSite x ∧ mkSite x < mkN x := by
  have h1 := Int.emod_nonneg x.sz (show (6 : Int) ≠ 0 by decide)
  have h2 := Int.emod_lt_of_pos x.sz (show (0 : Int) < 6 by decide)
  have hn : 2 ≤ mkN x ∧ mkN x ≤ 7 := by unfold mkN; omega
  refine ⟨by unfold sitesE; simp only [decide_eq_true_eq]; exact hn, Int.emod_nonneg _ (by omega), Int.emod_lt_of_pos _ (by omega)⟩
theorem next_four {s n : Int} (h : sitesE n = true) (h0 : 0 ≤ s) (hn : s < n) : nextE 4 s n = ((nextE 4 s n).1, 0) ∧ ofE (nextE 4 s n).1 n = s ∧ 5 ≤ (nextE 4 s n).1 ∧ (nextE 4 s n).1 ≤ 11 := by
  obtain ⟨k, rfl⟩ := Int.eq_ofNat_of_zero_le h0
  rcases sites_cases h with rfl | rfl | rfl | rfl | rfl | rfl
  all_goals
    have hk : k < 7 := by omega
    rcases cases7 hk with rfl | rfl | rfl | rfl | rfl | rfl | rfl
    all_goals first | (exfalso; omega) | decide
theorem mk_ok {x : MkS} (h : FineX x) : newOk (mkB x) (mkReg x) := by
  obtain ⟨h1, h2, h3⟩ := mk_n h
  obtain ⟨n1, n2, n3, n4⟩ := next_four h1 h2 h3
  have hm : mayR (mkReg x) = true := (mayR_iff _).2 ⟨⟨Int.le_refl _, by show 0 ≤ mkEp x; unfold mkEp; omega, by show mkEp x ≤ 1048576; unfold mkEp; omega⟩, by show okLog [] 0 = true; decide, Int.le_refl _, by show (0 : Int) ≤ (([] : List Ent).length : Int); decide⟩
  exact ⟨by show (0 : Int) ≤ 1; decide, by show (1 : Int) < 4; decide, h1, h2, n2, by show mkEp x ≤ 1048576; unfold mkEp; omega, hm, rfl, by show (0 : Int) < mkEp x; unfold mkEp; omega⟩
theorem mk_fine {x : MkS} (h : FineX x) : FineO (mkO x) := mk_n h
def begv20 (x : MkS) (s : SlcE) : List Value := [.int .u8 x.sz, .int .u8 x.si, .int .u16 x.stamp, .slice s.1 s.2.1 s.2.2]
theorem beg20_info : (Try.prog.info? 68).map (·.size) = some 4 := by kernel_rfl
def MadePost (x : MkS) (w : World) (e : Ending) (w' : World) : Prop :=
  (mkWon x = true ∧ ∃ g h, e = .returned (.tuple #[.pointer (some ⟨g, 0, none⟩), .pointer (some ⟨h, 0, none⟩)]) ∧ w.heap.size ≤ g ∧ w.heap.size ≤ h ∧ Blk w' g 116 (ownv (mkO x)) ∧ Blk w' h 78 (ownv (mkO x)) ∧ Below w.heap.size w w') ∨
  (mkWon x = false ∧ e = .returned (.tuple #[.pointer none, .pointer none]) ∧ Below w.heap.size w w')

/-- The ballot, and the box. -/
def MadeI (w wr : World) (g : Nat) (x : MkS) (s : SlcE) (S : Slots) : Prop :=
  Below w.heap.size w wr ∧ BalAt wr w.heap.size g (mkB x) S ∧ Blk wr w.heap.size 68 (begv20 x s) ∧ w.heap.size ≤ g ∧ g ≠ w.heap.size
section
variable {w wr wr' : World} {g : Nat} {x : MkS} {s : SlcE} {S : Slots}
theorem MadeI.keep (H : MadeI w wr g x s S) (hb : Below wr.heap.size wr wr') : MadeI w wr' g x s S := by
  obtain ⟨h1, h2, h3, h4⟩ := H
  exact ⟨below_trans h1 hb h1.size, h2.keep hb, h3.keep hb, h4⟩
theorem MadeI.add {m : MailV} {e : Ending} (H : MadeI w wr g x s S) (hA : AddPost (mkB x) S g w.heap.size m.m wr e wr') : e = .returned (.bool (decide (addOk (mkB x) S m.m))) ∧ MadeI w wr' g x s (addS (mkB x) S m.m) := by
  obtain ⟨he, hB, hK⟩ := hA
  obtain ⟨h1, ⟨sl, hb, _⟩, h4, h5, h7⟩ := H
  exact ⟨he, h1.trans (hK.below (B := w.heap.size) (fun k e => by cases e; exact h5) (fun k e => by cases e) h1.size), hB, hK.blk h4 (fun e => h7 (Option.some.inj e).symm) (by simp), h5, h7⟩
end

theorem mk_new (x : MkS) (n : Int) (hn : mkN x = n) (w : World) : Calls Try.prog 50 #[.int .i64 1, .int .i64 (mkEp x), .int .i64 (mkSite x), .int .i64 n, .int .i64 x.stamp, .agg #[.int .i64 (mkEp x), .int .i64 0, .slice none 0 0, .int .i64 0]] w fun e w' => NewPost (mkB x) (mkReg x) w e w' := by
  subst hn
  exact new_any (mkB x) (mkReg x) no0 w LogAt.nil (by simp [mkReg])

theorem mk_add (x : MkS) (n : Int) (hn : mkN x = n) (B g : Nat) (S : Slots) (k : Int) (w : World) (H : BalAt w B g (mkB x) S) (hB : B ≤ w.heap.size) (hs : sitesE n = true) :
    Calls Try.prog 52 #[.pointer (some ⟨g, 0, none⟩), .agg #[.int .i64 2, .int .i64 (k % n), .int .i64 (mkSite x), .int .i64 1, .int .i64 (mkEp x), .int .i64 0, .int .i64 0, .int .i64 0, .int .i64 x.stamp, .slice none 0 0, .int .i64 0, .int .i64 0, .int .i64 0, .int .i64 0, .int .i64 0, .int .i64 0, .int .i64 0, .int .i64 0]] w fun e w' => AddPost (mkB x) S g B (mkMail x k) w e w' := by
  subst hn
  exact add_any B g (mkB x) S ⟨mkMail x k, no0, (0, 0, 0, 0, 0), (0, 0, 0)⟩ w H hB hs LogAt.nil (by simp [mkMail])

theorem mk_onew (x : MkS) (n : Int) (hn : mkN x = n) (hX : FineX x) (B g : Nat) (S : Slots) (w : World) (H : BalAt w B g (mkB x) S) :
    Calls Try.prog 51 #[.int .i64 1, .int .i64 (mkSite x), .int .i64 n, .pointer (some ⟨g, 0, none⟩)] w fun e w' => ONewPost 1 (mkB x) S w e w' := by
  obtain ⟨h1, h2, h3⟩ := mk_n hX
  obtain ⟨n1, n2, n3, n4⟩ := next_four h1 h2 h3
  subst hn
  exact onew_any 1 B g (mkB x) S w H (by decide) (by decide) h1 h2 h3 n2

set_option maxHeartbeats 8000000 in
theorem made_any (x : MkS) (A : Option Addr) (c : Nat) (w : World) (hX : FineX x) (hl : Nums w w.heap.size A .u8 x.who) (hll : x.who.length ≤ 9223372036854775807) :
    Calls Try.prog 24 #[.agg (begv20 x (A, x.who.length, c)).toArray] w fun e w' => MadePost x w e w' := by
  obtain ⟨hsn, hs0, hsl⟩ := mk_n hX
  obtain ⟨n1, n2, n3, n4⟩ := next_four hsn hs0 hsl
  have hok := mk_ok hX
  have hw0 : Below w.heap.size w (w.alloc (.cells (begv20 x (A, x.who.length, c)).toArray 68)) := (Below.refl _ _).alloc (Nat.le_refl _) _
  have H0 := Lib.hid (And.intro hw0 (Blk.new w 68 (begv20 x (A, x.who.length, c))))
  have FC : ∀ w', Blk w' w.heap.size 68 (begv20 x (A, x.who.length, c)) → w'.cell? ⟨w.heap.size, 0, none⟩ = some (.int .u8 x.sz) ∧ w'.cell? ⟨w.heap.size, 1, none⟩ = some (.int .u8 x.si) ∧ w'.cell? ⟨w.heap.size, 2, none⟩ = some (.int .u16 x.stamp) ∧ w'.cell? ⟨w.heap.size, 3, none⟩ = some (.slice A x.who.length c) := fun w' h => ⟨h.cell 0, h.cell 1, h.cell 2, h.cell 3⟩
  have HX := Lib.hid hX
  obtain ⟨⟨z0, z1⟩, ⟨y0, y1⟩, ⟨t0, t1⟩, hwho⟩ := hX
  have zt : Int.tmod x.sz 6 = x.sz % 6 := Int.tmod_eq_emod_of_nonneg z0
  have hzr : 0 ≤ x.sz % 6 ∧ x.sz % 6 < 6 := ⟨Int.emod_nonneg _ (by decide), Int.emod_lt_of_pos _ (by decide)⟩
  have hzr0 := hzr.1
  have hzr1 := hzr.2
  obtain ⟨n, hn⟩ : ∃ n, mkN x = n := ⟨_, rfl⟩
  have hn' : 2 + x.sz % 6 = n := hn
  have hsl' := hsl
  rw [hn] at hsl' hsn n1 n2 n3 n4
  have hnb : 2 ≤ n ∧ n ≤ 7 := by have := sites_cases hsn; omega
  have hnp := hnb.1
  have hnq := hnb.2
  have yt : Int.tmod x.si n = x.si % n := Int.tmod_eq_emod_of_nonneg y0
  have hsite : x.si % n = mkSite x := by unfold mkSite; rw [hn]
  have hnz : ¬ n = 0 := by omega
  have hnz' : (n == 0) = false := by rw [beq_eq_false_iff_ne]; exact hnz
  have HW := Lib.hid (And.intro hl hwho)
  have HN := Lib.hid (And.intro hn (And.intro hok (And.intro hsn (And.intro n1 n2))))
  obtain ⟨f0, f1, f2, f3⟩ := FC _ H0.out.2
  clear hl hwho hok hsn n1 n2 hn hsl hw0 hzr hnb
  have w1 : IntKind.i64.wrap x.sz = x.sz := IntWalk.i64_in _ (by omega)
  have w2 : IntKind.i64.wrap x.si = x.si := IntWalk.i64_in _ (by omega)
  have w3 : IntKind.i64.wrap x.stamp = x.stamp := IntWalk.i64_in _ (by omega)
  go_enter Try.func24, Try.ntmps24
  go_wp2_with fail
  refine (next_any 4 (mkSite x) n _).mono ?_
  rintro e w1 ⟨rfl, rfl⟩
  have e1 : (nextE 4 (mkSite x) n).1 = mkEp x := by unfold mkEp; rw [HN.out.1]
  have e2 : (nextE 4 (mkSite x) n).2 = 0 := congrArg Prod.snd HN.out.2.2.2.1
  rw [e1, e2]
  clear e1 e2
  go_wp2_with fail
  refine (mk_new x n HN.out.1 _).mono ?_
  rintro e w2 (⟨_, g, rfl, hgw, hB, hb2⟩ | ⟨hno, _⟩)
  case inr => exact absurd HN.out.2.1 hno
  have H3 := Lib.hid (show MadeI w w2 g x (A, x.who.length, c) (mkTo x 0) from by
    have z2 := H0.out.1.size
    have hlt := H0.out.2.lt
    exact ⟨below_trans H0.out.1 hb2 z2, hB.base z2, H0.out.2.keep hb2, by omega, by omega⟩)
  clear hb2 hB hgw H0 f0 f1 f2 f3
  go_wp2_with fail
  go_loopg [10] 20 (fun q i wr => ∃ j : Nat, q = 20 - j ∧ j ≤ 20 ∧ j ≤ x.who.length ∧ i = .int .i64 j ∧ MadeI w wr g x (A, x.who.length, c) (mkTo x j))
  case atStart => exact ⟨0, rfl, by omega, by omega, rfl, H3.out⟩
  case round =>
    clear H3
    obtain ⟨j, hq, hj, hjl, rfl, hI⟩ := hrel
    have AA : Aside (gk = 20 - j) := hq
    clear hq
    obtain ⟨wo, rfl⟩ : ∃ wo, wo = wr := ⟨_, rfl⟩
    have HI := Lib.hid hI
    clear hI
    obtain ⟨f0, f1, f2, f3⟩ := FC _ HI.out.2.2.1
    by_cases hlt : j < x.who.length ∧ j < 20
    · obtain ⟨hlt, hl20⟩ := hlt
      have j0 : (0 : Int) ≤ (j : Int) := by omega
      have j1 : (j : Int) < (x.who.length : Int) := by omega
      have j2 : (j : Int) < 20 := by omega
      obtain ⟨b1, o1, k, rfl, hk, FU⟩ := HW.out.1.at_ hlt
      have hkr := HW.out.2 k (List.mem_of_getElem? hk.out)
      have k0 := hkr.1
      have k1 := hkr.2
      have wk : IntKind.i64.wrap k = k := IntWalk.i64_in _ (by omega)
      have kt : Int.tmod k n = k % n := Int.tmod_eq_emod_of_nonneg k0
      have HFU := Lib.hid FU
      clear FU hkr
      have HI' := Lib.hid (HI.out.keep (Below.refl _ _).drew)
      clear HI
      go_wp2_with fail
      refine wp_region_p ([(0, true), (1, true), (2, true), (3, true), (4, true), (5, true), (6, true), (7, true), (8, true), (9, true), (10, true), (11, true), (12, true), (13, true), (14, true), (15, false)]) (fun w' => Below w.heap.size w w' ∧ Blk w' w.heap.size 68 (begv20 x (some ⟨b1, o1, none⟩, x.who.length, c))) (by kernel_rfl) rfl (by kernel_rfl) (by kernel_rfl) (And.intro HI'.out.1 HI'.out.2.2.1) rfl ?_
      intro KP RP TP hKP hTP hTP'
      simp only [List.append_eq, List.cons_append, List.nil_append, pick, nth]
      generalize wo.drew = wd at *
      clear f0 f1 f2 f3
      go_wp2_with (first
        | (apply SeqP.skip; rfl; simp only [Act.put, List.setIfInBounds_toArray, List.set_cons_zero, List.set_cons_succ])
        | (apply SeqP.call; rfl; rfl; (intro w2 hw; have hw := hTP _ hw; (obtain ⟨f0, f1, f2, f3⟩ := FC w2 hw.2; have f4 := HFU.out w2 hw.1); go_simp; exact ⟨rfl, rfl⟩); (intro w2 hw; have hw := hTP _ hw; (obtain ⟨f0, f1, f2, f3⟩ := FC w2 hw.2; have f4 := HFU.out w2 hw.1); (first | fail)); simp only [Act.put, List.setIfInBounds_toArray, List.set_cons_zero, List.set_cons_succ])
        | (apply SeqP.pure; rfl; (intro w2 hw; have hw := hTP _ hw; (obtain ⟨f0, f1, f2, f3⟩ := FC w2 hw.2; have f4 := HFU.out w2 hw.1); go_simp; with_reducible rfl); simp only [Act.put, List.setIfInBounds_toArray, List.set_cons_zero, List.set_cons_succ])
        | (apply SeqP.split; rfl; rfl; all_goals (intro hc; simp only [hc]; try simp only [beq_iff_eq, decide_eq_true_eq, beq_eq_false_iff_ne, decide_eq_false_iff_not, bne_iff_ne, ne_eq, Bool.not_eq_true', Bool.not_eq_false', Int.not_le, Int.not_lt, bne_eq_false_iff_eq, Bool.or_eq_true, Bool.and_eq_true, Bool.or_eq_false_iff] at hc)))
      apply SeqP.eff
      · rfl
      intro KE hKE
      go_wp2_with fail
      refine (mk_add x n HN.out.1 w.heap.size g (mkTo x j) k wd HI'.out.2.1 HI'.out.1.size HN.out.2.2.1).mono ?_
      rintro e w4 hA4
      obtain ⟨rfl, hI4⟩ := HI'.out.add (m := ⟨mkMail x k, no0, (0, 0, 0, 0, 0), (0, 0, 0)⟩) hA4
      have hI5 : MadeI w w4 g x (some ⟨b1, o1, none⟩, x.who.length, c) (mkTo x (j + 1)) := by
        rw [mkTo_next hk.out]; exact hI4
      have HI4 := Lib.hid hI5
      clear hI4 hI5 hA4 HI'
      refine hKE _ _ (hTP' _ (And.intro HI4.out.1 HI4.out.2.2.1)) ?_
      clear hKE KE
      apply SeqP.nil
      refine hKP _ _ (hTP' _ (And.intro HI4.out.1 HI4.out.2.2.1)) ?_
      clear hKP hTP hTP'
      go_wp2_with fail
      go_roundg (20 - (j + 1))
      case measure => have hkk := AA.out; omega
      case rel => exact ⟨j + 1, rfl, by omega, by omega, by go_num, HI4.out⟩
    · have HL := Lib.hid (show mkTo x j = mkSl x from by unfold mkSl; congr 1; omega)
      by_cases hlt2 : j < x.who.length
      case pos =>
        obtain rfl : j = 20 := by omega
        have j1 : (20 : Int) < (x.who.length : Int) := by omega
        have j2 : ¬ (20 : Int) < 20 := by omega
        go_wp2_with fail
        refine (mk_onew x n HN.out.1 HX.out w.heap.size g (mkTo x 20) wo HI.out.2.1).mono ?_
        rintro e w5 (⟨hwon, h, rfl, hgh, hBo, hb5⟩ | ⟨hwon, rfl, hb5⟩)
        case inr =>
          have HZ := Lib.hid (And.intro hwon (below_trans HI.out.1 hb5 HI.out.1.size))
          clear hwon hb5
          go_wp2_with fail
          go_ret2
          exact .inr ⟨by unfold mkWon; rw [← HL.out]; exact HZ.out.1, rfl, HZ.out.2⟩
        have hd5 : Below w5.heap.size w5 w5.drew := (Below.refl _ _).drew
        have HI5 := Lib.hid ((HI.out.keep hb5).keep hd5)
        have H5 := Lib.hid (And.intro hwon (And.intro (hBo.keep hd5) (show w.heap.size ≤ h from by have := HI.out.1.size; omega)))
        clear hwon hb5 hgh hBo hd5 HI f0 f1 f2 f3
        go_wp2_with fail
        refine wp_region_p ([(0, true), (1, true), (2, true), (3, true), (4, true), (5, true), (6, true), (7, true), (8, false), (9, false), (10, true), (11, true)]) (fun w' => Below w.heap.size w w' ∧ Blk w' w.heap.size 68 (begv20 x (A, x.who.length, c))) (by kernel_rfl) rfl (by kernel_rfl) (by kernel_rfl) (And.intro HI5.out.1 HI5.out.2.2.1) rfl ?_
        intro KP RP TP hKP hTP hTP'
        simp only [List.append_eq, List.cons_append, List.nil_append, pick, nth]
        generalize w5.drew = wd at *
        go_wp2_with (first
          | (apply SeqP.skip; rfl; simp only [Act.put, List.setIfInBounds_toArray, List.set_cons_zero, List.set_cons_succ])
          | (apply SeqP.call; rfl; rfl; (intro w2 hw; have hw := hTP _ hw; (obtain ⟨f0, f1, f2, f3⟩ := FC w2 hw.2); go_simp; exact ⟨rfl, rfl⟩); (intro w2 hw; have hw := hTP _ hw; (obtain ⟨f0, f1, f2, f3⟩ := FC w2 hw.2); (first | fail)); simp only [Act.put, List.setIfInBounds_toArray, List.set_cons_zero, List.set_cons_succ])
          | (apply SeqP.pure; rfl; (intro w2 hw; have hw := hTP _ hw; (obtain ⟨f0, f1, f2, f3⟩ := FC w2 hw.2); go_simp; with_reducible rfl); simp only [Act.put, List.setIfInBounds_toArray, List.set_cons_zero, List.set_cons_succ])
          | (apply SeqP.split; rfl; rfl; all_goals (intro hc; simp only [hc]; try simp only [beq_iff_eq, decide_eq_true_eq, beq_eq_false_iff_ne, decide_eq_false_iff_not, bne_iff_ne, ne_eq, Bool.not_eq_true', Bool.not_eq_false', Int.not_le, Int.not_lt, bne_eq_false_iff_eq, Bool.or_eq_true, Bool.and_eq_true, Bool.or_eq_false_iff] at hc)))
        apply SeqP.eff
        · rfl
        intro KE hKE
        go_wp2_with fail
        obtain ⟨sl5, hb5, _⟩ := HI5.out.2.1
        refine (bsites_any g (mkB x) (mkTo x 20) sl5 wd hb5 (by show mkN x ≠ 0; rw [HN.out.1]; exact hnz)).mono ?_
        clear hb5
        rintro e w6 ⟨v6, rfl, hR6, hb6⟩
        obtain ⟨A6, c6, rfl, _, _, hNu⟩ := RowI.form hR6
        have HI6 := Lib.hid (HI5.out.keep hb6)
        have H6 := Lib.hid (And.intro H5.out.1 (And.intro (H5.out.2.1.keep hb6) (And.intro H5.out.2.2 hNu)))
        clear hR6 hb6 hNu HI5 H5
        refine hKE _ _ (hTP' _ (And.intro HI6.out.1 HI6.out.2.2.1)) ?_
        clear hKE KE
        go_wp2_with (first
          | (apply SeqP.skip; rfl; simp only [Act.put, List.setIfInBounds_toArray, List.set_cons_zero, List.set_cons_succ])
          | (apply SeqP.call; rfl; rfl; (intro w2 hw; have hw := hTP _ hw; (skip); go_simp; exact ⟨rfl, rfl⟩); (intro w2 hw; have hw := hTP _ hw; (skip); (first | fail)); simp only [Act.put, List.setIfInBounds_toArray, List.set_cons_zero, List.set_cons_succ])
          | (apply SeqP.pure; rfl; (intro w2 hw; have hw := hTP _ hw; (skip); go_simp; with_reducible rfl); simp only [Act.put, List.setIfInBounds_toArray, List.set_cons_zero, List.set_cons_succ])
          | (apply SeqP.split; rfl; rfl; all_goals (intro hc; simp only [hc]; try simp only [beq_iff_eq, decide_eq_true_eq, beq_eq_false_iff_ne, decide_eq_false_iff_not, bne_iff_ne, ne_eq, Bool.not_eq_true', Bool.not_eq_false', Int.not_le, Int.not_lt, bne_eq_false_iff_eq, Bool.or_eq_true, Bool.and_eq_true, Bool.or_eq_false_iff] at hc)))
        apply SeqP.eff
        · rfl
        intro KE hKE
        go_wp2_with fail
        refine (rnew20_any 1 (mkEp x) (mkSite x) n x.stamp (sitesTo (mkTo x 20) 7) A6 c6 w6 H6.out.2.2.2 (by rw [sitesTo_len]; have := listTo_len (mkTo x 20) 7; omega) (fun i hi => sites_in hi)).mono ?_
        rintro e w7 ⟨g7, rfl, hg7, hB7, hb7⟩
        have HI7 := Lib.hid (HI6.out.keep hb7)
        have H7 := Lib.hid (And.intro H6.out.1 (And.intro (H6.out.2.1.keep hb7) (And.intro H6.out.2.2.1 (And.intro hB7 (show w.heap.size ≤ g7 from by have := HI6.out.1.size; omega)))))
        clear hB7 hb7 hg7 HI6 H6
        refine hKE _ _ (hTP' _ (And.intro HI7.out.1 HI7.out.2.2.1)) ?_
        clear hKE KE
        go_wp2_with (first
          | (apply SeqP.skip; rfl; simp only [Act.put, List.setIfInBounds_toArray, List.set_cons_zero, List.set_cons_succ])
          | (apply SeqP.call; rfl; rfl; (intro w2 hw; have hw := hTP _ hw; (skip); go_simp; exact ⟨rfl, rfl⟩); (intro w2 hw; have hw := hTP _ hw; (skip); (first | fail)); simp only [Act.put, List.setIfInBounds_toArray, List.set_cons_zero, List.set_cons_succ])
          | (apply SeqP.pure; rfl; (intro w2 hw; have hw := hTP _ hw; (skip); go_simp; with_reducible rfl); simp only [Act.put, List.setIfInBounds_toArray, List.set_cons_zero, List.set_cons_succ])
          | (apply SeqP.split; rfl; rfl; all_goals (intro hc; simp only [hc]; try simp only [beq_iff_eq, decide_eq_true_eq, beq_eq_false_iff_ne, decide_eq_false_iff_not, bne_iff_ne, ne_eq, Bool.not_eq_true', Bool.not_eq_false', Int.not_le, Int.not_lt, bne_eq_false_iff_eq, Bool.or_eq_true, Bool.and_eq_true, Bool.or_eq_false_iff] at hc)))
        apply SeqP.nil
        refine hKP _ _ (hTP' _ (And.intro HI7.out.1 HI7.out.2.2.1)) ?_
        clear hKP hTP hTP'
        go_wp2_with fail
        go_ret2
        have hO : mkO x = madeO 1 (mkEp x) (mkSite x) n x.stamp (sitesTo (mkTo x 20) 7) := by unfold mkO; rw [HL.out, HN.out.1]
        have hO' : mkO x = madeO 1 (mkB x).epoch (mkB x).site (mkB x).n (mkB x).stamp (sitesTo (mkTo x 20) 7) := by unfold mkO; rw [HL.out]; rfl
        exact .inl ⟨by unfold mkWon; rw [← HL.out]; exact H7.out.1, h, g7, rfl, H7.out.2.2.1, H7.out.2.2.2.2, by rw [hO']; exact H7.out.2.1, by rw [hO]; exact H7.out.2.2.2.1, HI7.out.1⟩
      case neg =>
        have j1 : ¬ (j : Int) < (x.who.length : Int) := by omega
        go_wp2_with fail
        refine (mk_onew x n HN.out.1 HX.out w.heap.size g (mkTo x j) wo HI.out.2.1).mono ?_
        rintro e w5 (⟨hwon, h, rfl, hgh, hBo, hb5⟩ | ⟨hwon, rfl, hb5⟩)
        case inr =>
          have HZ := Lib.hid (And.intro hwon (below_trans HI.out.1 hb5 HI.out.1.size))
          clear hwon hb5
          go_wp2_with fail
          go_ret2
          exact .inr ⟨by unfold mkWon; rw [← HL.out]; exact HZ.out.1, rfl, HZ.out.2⟩
        have hd5 : Below w5.heap.size w5 w5.drew := (Below.refl _ _).drew
        have HI5 := Lib.hid ((HI.out.keep hb5).keep hd5)
        have H5 := Lib.hid (And.intro hwon (And.intro (hBo.keep hd5) (show w.heap.size ≤ h from by have := HI.out.1.size; omega)))
        clear hwon hb5 hgh hBo hd5 HI f0 f1 f2 f3
        go_wp2_with fail
        refine wp_region_p ([(0, true), (1, true), (2, true), (3, true), (4, true), (5, true), (6, true), (7, true), (8, false), (9, false), (10, true), (11, true)]) (fun w' => Below w.heap.size w w' ∧ Blk w' w.heap.size 68 (begv20 x (A, x.who.length, c))) (by kernel_rfl) rfl (by kernel_rfl) (by kernel_rfl) (And.intro HI5.out.1 HI5.out.2.2.1) rfl ?_
        intro KP RP TP hKP hTP hTP'
        simp only [List.append_eq, List.cons_append, List.nil_append, pick, nth]
        generalize w5.drew = wd at *
        go_wp2_with (first
          | (apply SeqP.skip; rfl; simp only [Act.put, List.setIfInBounds_toArray, List.set_cons_zero, List.set_cons_succ])
          | (apply SeqP.call; rfl; rfl; (intro w2 hw; have hw := hTP _ hw; (obtain ⟨f0, f1, f2, f3⟩ := FC w2 hw.2); go_simp; exact ⟨rfl, rfl⟩); (intro w2 hw; have hw := hTP _ hw; (obtain ⟨f0, f1, f2, f3⟩ := FC w2 hw.2); (first | fail)); simp only [Act.put, List.setIfInBounds_toArray, List.set_cons_zero, List.set_cons_succ])
          | (apply SeqP.pure; rfl; (intro w2 hw; have hw := hTP _ hw; (obtain ⟨f0, f1, f2, f3⟩ := FC w2 hw.2); go_simp; with_reducible rfl); simp only [Act.put, List.setIfInBounds_toArray, List.set_cons_zero, List.set_cons_succ])
          | (apply SeqP.split; rfl; rfl; all_goals (intro hc; simp only [hc]; try simp only [beq_iff_eq, decide_eq_true_eq, beq_eq_false_iff_ne, decide_eq_false_iff_not, bne_iff_ne, ne_eq, Bool.not_eq_true', Bool.not_eq_false', Int.not_le, Int.not_lt, bne_eq_false_iff_eq, Bool.or_eq_true, Bool.and_eq_true, Bool.or_eq_false_iff] at hc)))
        apply SeqP.eff
        · rfl
        intro KE hKE
        go_wp2_with fail
        obtain ⟨sl5, hb5, _⟩ := HI5.out.2.1
        refine (bsites_any g (mkB x) (mkTo x j) sl5 wd hb5 (by show mkN x ≠ 0; rw [HN.out.1]; exact hnz)).mono ?_
        clear hb5
        rintro e w6 ⟨v6, rfl, hR6, hb6⟩
        obtain ⟨A6, c6, rfl, _, _, hNu⟩ := RowI.form hR6
        have HI6 := Lib.hid (HI5.out.keep hb6)
        have H6 := Lib.hid (And.intro H5.out.1 (And.intro (H5.out.2.1.keep hb6) (And.intro H5.out.2.2 hNu)))
        clear hR6 hb6 hNu HI5 H5
        refine hKE _ _ (hTP' _ (And.intro HI6.out.1 HI6.out.2.2.1)) ?_
        clear hKE KE
        go_wp2_with (first
          | (apply SeqP.skip; rfl; simp only [Act.put, List.setIfInBounds_toArray, List.set_cons_zero, List.set_cons_succ])
          | (apply SeqP.call; rfl; rfl; (intro w2 hw; have hw := hTP _ hw; (skip); go_simp; exact ⟨rfl, rfl⟩); (intro w2 hw; have hw := hTP _ hw; (skip); (first | fail)); simp only [Act.put, List.setIfInBounds_toArray, List.set_cons_zero, List.set_cons_succ])
          | (apply SeqP.pure; rfl; (intro w2 hw; have hw := hTP _ hw; (skip); go_simp; with_reducible rfl); simp only [Act.put, List.setIfInBounds_toArray, List.set_cons_zero, List.set_cons_succ])
          | (apply SeqP.split; rfl; rfl; all_goals (intro hc; simp only [hc]; try simp only [beq_iff_eq, decide_eq_true_eq, beq_eq_false_iff_ne, decide_eq_false_iff_not, bne_iff_ne, ne_eq, Bool.not_eq_true', Bool.not_eq_false', Int.not_le, Int.not_lt, bne_eq_false_iff_eq, Bool.or_eq_true, Bool.and_eq_true, Bool.or_eq_false_iff] at hc)))
        apply SeqP.eff
        · rfl
        intro KE hKE
        go_wp2_with fail
        refine (rnew20_any 1 (mkEp x) (mkSite x) n x.stamp (sitesTo (mkTo x j) 7) A6 c6 w6 H6.out.2.2.2 (by rw [sitesTo_len]; have := listTo_len (mkTo x j) 7; omega) (fun i hi => sites_in hi)).mono ?_
        rintro e w7 ⟨g7, rfl, hg7, hB7, hb7⟩
        have HI7 := Lib.hid (HI6.out.keep hb7)
        have H7 := Lib.hid (And.intro H6.out.1 (And.intro (H6.out.2.1.keep hb7) (And.intro H6.out.2.2.1 (And.intro hB7 (show w.heap.size ≤ g7 from by have := HI6.out.1.size; omega)))))
        clear hB7 hb7 hg7 HI6 H6
        refine hKE _ _ (hTP' _ (And.intro HI7.out.1 HI7.out.2.2.1)) ?_
        clear hKE KE
        go_wp2_with (first
          | (apply SeqP.skip; rfl; simp only [Act.put, List.setIfInBounds_toArray, List.set_cons_zero, List.set_cons_succ])
          | (apply SeqP.call; rfl; rfl; (intro w2 hw; have hw := hTP _ hw; (skip); go_simp; exact ⟨rfl, rfl⟩); (intro w2 hw; have hw := hTP _ hw; (skip); (first | fail)); simp only [Act.put, List.setIfInBounds_toArray, List.set_cons_zero, List.set_cons_succ])
          | (apply SeqP.pure; rfl; (intro w2 hw; have hw := hTP _ hw; (skip); go_simp; with_reducible rfl); simp only [Act.put, List.setIfInBounds_toArray, List.set_cons_zero, List.set_cons_succ])
          | (apply SeqP.split; rfl; rfl; all_goals (intro hc; simp only [hc]; try simp only [beq_iff_eq, decide_eq_true_eq, beq_eq_false_iff_ne, decide_eq_false_iff_not, bne_iff_ne, ne_eq, Bool.not_eq_true', Bool.not_eq_false', Int.not_le, Int.not_lt, bne_eq_false_iff_eq, Bool.or_eq_true, Bool.and_eq_true, Bool.or_eq_false_iff] at hc)))
        apply SeqP.nil
        refine hKP _ _ (hTP' _ (And.intro HI7.out.1 HI7.out.2.2.1)) ?_
        clear hKP hTP hTP'
        go_wp2_with fail
        go_ret2
        have hO : mkO x = madeO 1 (mkEp x) (mkSite x) n x.stamp (sitesTo (mkTo x j) 7) := by unfold mkO; rw [HL.out, HN.out.1]
        have hO' : mkO x = madeO 1 (mkB x).epoch (mkB x).site (mkB x).n (mkB x).stamp (sitesTo (mkTo x j) 7) := by unfold mkO; rw [HL.out]; rfl
        exact .inl ⟨by unfold mkWon; rw [← HL.out]; exact H7.out.1, h, g7, rfl, H7.out.2.2.1, H7.out.2.2.2.2, by rw [hO']; exact H7.out.2.1, by rw [hO]; exact H7.out.2.2.2.1, HI7.out.1⟩
end Go.Proofs.Ytdphfhenjndkkaa

set_option linter.unusedSimpArgs false
set_option linter.unusedVariables false
set_option maxRecDepth 100000
namespace Go.Proofs.Ytdphfhenjndkkaa
open Go Go.RowKit Go.Sq Go.Wd Go.Arch

def bV : BegS := ⟨0, 2, 1, 3, 7⟩
def ownV : RegS := ⟨2, 0, [], 0⟩
def SV : Slots := put7 no7 1 ownV
def pV : MailS := ⟨2, 0, 1, 0, 2, 0, 0, 0, 7, []⟩
def SV2 : Slots := addS bV SV pV
theorem okV : newOk bV ownV := by decide
theorem addV : addOk bV SV pV := by decide
theorem wonV : wonS bV SV = false := by decide
theorem wonV2 : wonS bV SV2 = true := by decide
def oV : OwnS := madeO 0 2 1 3 7 (sitesTo SV2 7)
theorem fineV : FineO oV := by unfold FineO; decide
def aV : MailS := ⟨5, 0, 1, 0, 2, 0, 0, 1, 9, []⟩
def oV1 : OwnS := sureS oV 2
def oV2 : OwnS := ackS oV1 aV
theorem most_of {l s : List Int} {n : Int} (h : sortE l = s) : mostE l n = if mostOk l n then (s.getD (l.length - (majE n).toNat) 0, true) else (0, false) := by
  unfold mostE
  rw [h]
theorem until_of {o : OwnS} {now : Int} {l : List Int} {p : Int × Bool} (ht : toldE (up7 o.st o.site.toNat now) o.n = l) (hs : mostE l o.n = p) : untilO o now = if p.2 = true ∧ p.1 ≤ 1073741824 then p.1 + 10 else 0 := by
  unfold untilO mostO
  rw [ht, hs]
theorem sort2 {a b : Int} (h : a ≤ b) : sortE [a, b] = [a, b] := by
  unfold sortE
  apply List.mergeSort_of_pairwise
  simp [h]
theorem untilV : untilO oV 7 = 17 := (until_of (l := [7, 7]) (p := (7, true)) (by decide) ((most_of (sort2 (by decide))).trans (by decide))).trans (by decide)
theorem untilV16 : untilO oV 16 = 17 := (until_of (l := [7, 16]) (p := (7, true)) (by decide) ((most_of (sort2 (by decide))).trans (by decide))).trans (by decide)
theorem untilV17 : untilO oV 17 = 17 := (until_of (l := [7, 17]) (p := (7, true)) (by decide) ((most_of (sort2 (by decide))).trans (by decide))).trans (by decide)
theorem openV : openO oV 16 = true := by unfold openO; rw [untilV16]; decide
theorem openV2 : openO oV 17 = false := by unfold openO; rw [untilV17]; decide
theorem commitV : commitO oV = 0 := by decide
theorem commitV1 : commitO oV1 = 0 := by decide
theorem ackV : ackOk oV1 aV := by decide
theorem commitV2 : commitO oV2 = 1 := by
  have h : mostO oV2.has oV2.n = (1, true) := by
    unfold mostO
    rw [show toldE oV2.has oV2.n = [1, 2] from by decide]
    exact (most_of (sort2 (by decide))).trans (by decide)
  unfold commitO
  rw [h]
  rfl
theorem untilV2 : untilO oV2 9 = 19 := (until_of (l := [9, 9]) (p := (9, true)) (by decide) ((most_of (sort2 (by decide))).trans (by decide))).trans (by decide)
theorem frzV : frzE oV2 1 = 2 := by decide
theorem frzV' : frzS oV2 1 = oV2 := if_neg (by decide)
def oV3 : OwnS := frzS oV2 2
theorem frzV2 : frzE oV2 2 = 0 := by decide
theorem openV3 : openO oV3 9 = false := by decide
theorem fineV1 : FineO oV1 := fineV
theorem fineV2 : FineO oV2 := by unfold FineO; decide
theorem fineV3 : FineO oV3 := by unfold FineO; decide
theorem fzV3 : oV3.fz = true ∧ oV3.target = 2 := by decide
end Go.Proofs.Ytdphfhenjndkkaa

set_option linter.unusedSimpArgs false
set_option linter.unusedVariables false
set_option maxRecDepth 100000
namespace Go.Proofs.Ytdphfhenjndkkaa
open Go Go.RowKit Go.Sq Go.Wd Go.Arch

set_option maxHeartbeats 8000000 in
theorem lives20_any (w : World) : Calls Try.prog 23 #[] w fun e w' => e = .returned (.bool true) ∧ Below w.heap.size w w' := by
  have hn1 := new_any bV ownV no0 w LogAt.nil (by simp [ownV])
  have H1 := Lib.hid hn1
  clear hn1
  go_enter Try.func23, Try.ntmps23
  go_wp2_with fail
  refine H1.out.mono ?_
  clear H1
  rintro e w1 (⟨_, g, rfl, hgw, hB, hb⟩ | ⟨hno, _⟩)
  case inr => exact absurd okV hno
  have hB1 : BalAt w1 w.heap.size g bV SV := hB
  have H1 := Lib.hid (And.intro hB1 (And.intro hb hgw))
  clear hB hB1 hb hgw
  go_wp2_with fail
  refine (onew_any 0 w.heap.size g bV SV w1 H1.out.1 (by decide) (by decide) (by decide) (by decide) (by decide) (by decide)).mono ?_
  rintro e w2 (⟨hwon, _⟩ | ⟨_, rfl, hb2⟩)
  case inl => rw [wonV] at hwon; cases hwon
  have H2 := Lib.hid (show BalAt w2 w.heap.size g bV SV ∧ Below w.heap.size w w2 ∧ w.heap.size ≤ g from ⟨H1.out.1.keep hb2, below_trans H1.out.2.1 hb2 H1.out.2.1.size, H1.out.2.2⟩)
  clear hb2 H1
  go_wp2_with fail
  refine (add_any w.heap.size g bV SV ⟨pV, no0, (0, 0, 0, 0, 0), (0, 0, 0)⟩ w2 H2.out.1 H2.out.2.1.size (by decide) LogAt.nil (by simp [pV])).mono ?_
  rintro e w3 ⟨rfl, hB, hK⟩
  have hB' : BalAt w3 w.heap.size g bV SV2 := hB
  have H3 := Lib.hid (show BalAt w3 w.heap.size g bV SV2 ∧ Below w.heap.size w w3 ∧ w.heap.size ≤ g from ⟨hB', H2.out.2.1.trans (hK.below (B := w.heap.size) (fun k e => by cases e; exact H2.out.2.2) (fun k e => by cases e) H2.out.2.1.size), H2.out.2.2⟩)
  clear hB hB' hK H2
  go_wp2_with fail
  refine (onew_any 0 w.heap.size g bV SV2 w3 H3.out.1 (by decide) (by decide) (by decide) (by decide) (by decide) (by decide)).mono ?_
  rintro e w4 (⟨_, h, rfl, hhw, hBo, hb4⟩ | ⟨hwon, _⟩)
  case inr => rw [wonV2] at hwon; cases hwon
  have hBo' : Blk w4 h 116 (ownv oV) := hBo
  have H4 := Lib.hid (show Blk w4 h 116 (ownv oV) ∧ Below w.heap.size w w4 ∧ w.heap.size ≤ h from ⟨hBo', below_trans H3.out.2.1 hb4 H3.out.2.1.size, by have := H3.out.2.1.size; omega⟩)
  clear hBo hBo' hb4 hhw H3
  go_wp2_with fail
  refine (until_any h oV 7 w4 H4.out.1 fineV).mono ?_
  rintro e w5 ⟨rfl, hb⟩
  rw [untilV]
  have H5 := Lib.hid (show Blk w5 h 116 (ownv oV) ∧ Below w.heap.size w w5 ∧ w.heap.size ≤ h from ⟨H4.out.1.keep hb, below_trans H4.out.2.1 hb H4.out.2.1.size, H4.out.2.2⟩)
  clear hb H4
  go_wp2_with fail
  refine (oopen_any h oV 16 w5 H5.out.1 fineV).mono ?_
  rintro e w6 ⟨rfl, hb⟩
  rw [openV]
  have H6 := Lib.hid (show Blk w6 h 116 (ownv oV) ∧ Below w.heap.size w w6 ∧ w.heap.size ≤ h from ⟨H5.out.1.keep hb, below_trans H5.out.2.1 hb H5.out.2.1.size, H5.out.2.2⟩)
  clear hb H5
  go_wp2_with fail
  refine (oopen_any h oV 17 w6 H6.out.1 fineV).mono ?_
  rintro e w7 ⟨rfl, hb⟩
  rw [openV2]
  have H7 := Lib.hid (show Blk w7 h 116 (ownv oV) ∧ Below w.heap.size w w7 ∧ w.heap.size ≤ h from ⟨H6.out.1.keep hb, below_trans H6.out.2.1 hb H6.out.2.1.size, H6.out.2.2⟩)
  clear hb H6
  go_wp2_with fail
  refine (commit_any h oV w7 H7.out.1 fineV.1).mono ?_
  rintro e w8 ⟨rfl, hb⟩
  rw [commitV]
  have H8 := Lib.hid (show Blk w8 h 116 (ownv oV) ∧ Below w.heap.size w w8 ∧ w.heap.size ≤ h from ⟨H7.out.1.keep hb, below_trans H7.out.2.1 hb H7.out.2.1.size, H7.out.2.2⟩)
  clear hb H7
  go_wp2_with fail
  refine (sure_any h oV 2 w8 H8.out.1 fineV).mono ?_
  rintro e w9 ⟨rfl, hB, hK⟩
  have H9 := Lib.hid (show Blk w9 h 116 (ownv oV1) ∧ Below w.heap.size w w9 ∧ w.heap.size ≤ h from ⟨hB, H8.out.2.1.trans (hK.below (B := w.heap.size) (fun k e => by cases e; exact H8.out.2.2) (fun k e => by cases e) H8.out.2.1.size), H8.out.2.2⟩)
  clear hB hK H8
  go_wp2_with fail
  refine (commit_any h oV1 w9 H9.out.1 fineV1.1).mono ?_
  rintro e w10 ⟨rfl, hb⟩
  rw [commitV1]
  have H10 := Lib.hid (show Blk w10 h 116 (ownv oV1) ∧ Below w.heap.size w w10 ∧ w.heap.size ≤ h from ⟨H9.out.1.keep hb, below_trans H9.out.2.1 hb H9.out.2.1.size, H9.out.2.2⟩)
  clear hb H9
  go_wp2_with fail
  refine (ack_any h oV1 ⟨aV, no0, (0, 0, 0, 0, 0), (0, 0, 0)⟩ w10 H10.out.1 fineV1).mono ?_
  rintro e w11 ⟨rfl, hB, hK⟩
  rw [show decide (ackOk oV1 aV) = true from decide_eq_true ackV]
  have H11 := Lib.hid (show Blk w11 h 116 (ownv oV2) ∧ Below w.heap.size w w11 ∧ w.heap.size ≤ h from ⟨hB, H10.out.2.1.trans (hK.below (B := w.heap.size) (fun k e => by cases e; exact H10.out.2.2) (fun k e => by cases e) H10.out.2.1.size), H10.out.2.2⟩)
  clear hB hK H10
  go_wp2_with fail
  refine (commit_any h oV2 w11 H11.out.1 fineV2.1).mono ?_
  rintro e w12 ⟨rfl, hb⟩
  rw [commitV2]
  have H12 := Lib.hid (show Blk w12 h 116 (ownv oV2) ∧ Below w.heap.size w w12 ∧ w.heap.size ≤ h from ⟨H11.out.1.keep hb, below_trans H11.out.2.1 hb H11.out.2.1.size, H11.out.2.2⟩)
  clear hb H11
  go_wp2_with fail
  refine (until_any h oV2 9 w12 H12.out.1 fineV2).mono ?_
  rintro e w13 ⟨rfl, hb⟩
  rw [untilV2]
  have H13 := Lib.hid (show Blk w13 h 116 (ownv oV2) ∧ Below w.heap.size w w13 ∧ w.heap.size ≤ h from ⟨H12.out.1.keep hb, below_trans H12.out.2.1 hb H12.out.2.1.size, H12.out.2.2⟩)
  clear hb H12
  go_wp2_with fail
  refine (freeze_any h oV2 1 w13 H13.out.1 fineV2).mono ?_
  rintro e w14 ⟨rfl, hB, hK⟩
  rw [frzV, frzV'] at *
  have H14 := Lib.hid (show Blk w14 h 116 (ownv oV2) ∧ Below w.heap.size w w14 ∧ w.heap.size ≤ h from ⟨hB, H13.out.2.1.trans (Go.Wd.below_grown hK H13.out.2.2 H13.out.2.1.size), H13.out.2.2⟩)
  clear hB hK H13
  go_wp2_with fail
  refine (freeze_any h oV2 2 w14 H14.out.1 fineV2).mono ?_
  rintro e w15 ⟨rfl, hB, hK⟩
  rw [frzV2]
  have H15 := Lib.hid (show Blk w15 h 116 (ownv oV3) ∧ Below w.heap.size w w15 ∧ w.heap.size ≤ h from ⟨hB, H14.out.2.1.trans (Go.Wd.below_grown hK H14.out.2.2 H14.out.2.1.size), H14.out.2.2⟩)
  clear hB hK H14
  go_wp2_with fail
  refine (oopen_any h oV3 9 w15 H15.out.1 fineV3).mono ?_
  rintro e w16 ⟨rfl, hb⟩
  rw [openV3]
  have H16 := Lib.hid (show Blk w16 h 116 (ownv oV3) ∧ Below w.heap.size w w16 ∧ w.heap.size ≤ h from ⟨H15.out.1.keep hb, below_trans H15.out.2.1 hb H15.out.2.1.size, H15.out.2.2⟩)
  clear hb H15
  go_wp2_with fail
  refine (otarget_any h oV3 w16 H16.out.1 fineV3).mono ?_
  rintro e w17 ⟨rfl, rfl⟩
  rw [show targO oV3 = 2 from by decide, fzV3.1]
  go_wp2_with fail
  go_ret
  exact ⟨rfl, H16.out.2.1⟩
end Go.Proofs.Ytdphfhenjndkkaa

set_option linter.unusedSimpArgs false
set_option linter.unusedVariables false
set_option maxRecDepth 100000
namespace Go.Wd
open Go Go.RowKit
theorem exec_load_range {P : Program} {w : World} {o : Oper} {a : Act} (ty : TypeId) (x : Operand) (ho : o.op = .load ty x) (g i : Nat) (hx : a.eval x = .pointer (some ⟨g, i, none⟩))
    (cs : List Value) (hr : w.rangeAt g i cs) (d : TypeDesc) (hu : P.underlying ty = some d) (hd : d.isRow = true) (hi : (P.info? ty).map (·.size) = some cs.length) :
    (execOp a.eval o).run P w = .ok (.value (.agg cs.toArray)) w := by
  unfold execOp
  simp only [ho, hx, Instr.loadAt, Instr.sureAddr, Sem.run_bind, Sem.run_pure, Result.andThen_ok, run_loadVar_mid w g i ty cs d hr hu hd hi]
theorem wpList_load_range_g {P : Program} {w : World} {ops : Array Oper} {rest : List Oper} {o : Oper} {a : Act} {Q : Exit → Act → World → Prop} (ty : TypeId) (x : Operand) (ho : o.op = .load ty x)
    (hw : Region.wanted o (yielded ops a.tmps) = true) (g i : Nat) (hx : a.eval x = .pointer (some ⟨g, i, none⟩)) (cs : List Value) (d : TypeDesc) (hr : w.rangeAt g i cs)
    (hu : P.underlying ty = some d) (hd : d.isRow = true) (hi : (P.info? ty).map (·.size) = some cs.length)
    (h : wpList P ops Q rest (a.put o.dst (.agg cs.toArray)) w) : wpList P ops Q (o :: rest) a w :=
  wpList_wanted hw fun _ hK => wp_load_mid ty x ho g i hx cs d hr hu hd hi (hK _ _ h)
end Go.Wd
namespace Go.Proofs.Ytdphfhenjndkkaa
open Go Go.RowKit Go.Sq Go.Wd Go.Arch

/-- The k-th piece, as a range of cells. -/
theorem Mails.range {w : World} {B : Nat} {A : Option Addr} {l : List MailV} (h : Mails w B A l) {k : Nat} (hk : k < l.length) : ∃ b off x, A = some ⟨b, off, none⟩ ∧ Hid (l[k]? = some x) ∧ (∀ w', Below B w w' → w'.rangeAt b (off + k * 18) (mailv x)) ∧ Hid (LogAt w B x.es x.m.ents) := by
  obtain ⟨b, off, x, ha, hx, _, hc, hl⟩ := h.at_ hk
  refine ⟨b, off, x, ha, hx, fun w' hb j v hv => ?_, hl⟩
  have hj : j < 18 := (List.getElem?_eq_some_iff.1 hv).1
  rw [hc w' hb j hj]
  exact hv
end Go.Proofs.Ytdphfhenjndkkaa

set_option linter.unusedSimpArgs false
set_option linter.unusedVariables false
set_option maxRecDepth 100000
namespace Go.Proofs.Ytdphfhenjndkkaa
open Go Go.RowKit Go.Sq Go.Wd Go.Arch

/-- An owner, frozen or not. -/
def wFz (o : OwnS) (f : Bool) (t : Int) : OwnS := { o with fz := f, target := t }
theorem wFz_ack (o : OwnS) (f : Bool) (t : Int) (m : MailS) : ackS (wFz o f t) m = wFz (ackS o m) f t := by
  by_cases h : ackOk o m
  · have h' : ackOk (wFz o f t) m := h
    unfold ackS
    rw [if_pos h, if_pos h']
    rfl
  · have h' : ¬ ackOk (wFz o f t) m := h
    unfold ackS
    rw [if_neg h, if_neg h']
theorem wFz_ok (o : OwnS) (f : Bool) (t : Int) (m : MailS) : decide (ackOk (wFz o f t) m) = decide (ackOk o m) := rfl
theorem mk_wFz (x : MkS) : mkO x = wFz (mkO x) false 0 := rfl
theorem open_frozen (o : OwnS) (t now : Int) : openO (wFz o true t) now = false := rfl
theorem frz_again (o : OwnS) (t u : Int) : frzE (wFz o true t) u = 2 ∧ frzS (wFz o true t) u = wFz o true t := by
  have h : ¬ frzOk (wFz o true t) u := fun h => by cases h.2.2.2
  exact ⟨if_neg h, if_neg h⟩
def FrI (w wr : World) (g g2 : Nat) (o1 o2 : OwnS) : Prop := Below w.heap.size w wr ∧ Blk wr g 116 (ownv o1) ∧ Blk wr g2 116 (ownv o2) ∧ w.heap.size ≤ g ∧ w.heap.size ≤ g2 ∧ g ≠ g2
section
variable {w wr wr' : World} {g g2 : Nat} {o1 o2 : OwnS}
theorem FrI.keep (H : FrI w wr g g2 o1 o2) (hb : Below wr.heap.size wr wr') : FrI w wr' g g2 o1 o2 := by
  obtain ⟨h1, h2, h3, h4⟩ := H
  exact ⟨below_trans h1 hb h1.size, h2.keep hb, h3.keep hb, h4⟩
theorem FrI.left {o : OwnS} (H : FrI w wr g g2 o1 o2) (hb : Blk wr' g 116 (ownv o)) (hK : Kept wr wr' (some g) none) : FrI w wr' g g2 o o2 := by
  obtain ⟨h1, h2, h3, h4, h5, h6⟩ := H
  exact ⟨h1.trans (hK.below (B := w.heap.size) (fun k e => by cases e; exact h4) (fun k e => by cases e) h1.size), hb, hK.blk h3 (fun e => h6 (Option.some.inj e).symm) (by simp), h4, h5, h6⟩
theorem FrI.right {o : OwnS} (H : FrI w wr g g2 o1 o2) (hb : Blk wr' g2 116 (ownv o)) (hK : Kept wr wr' (some g2) none) : FrI w wr' g g2 o1 o := by
  obtain ⟨h1, h2, h3, h4, h5, h6⟩ := H
  exact ⟨h1.trans (hK.below (B := w.heap.size) (fun k e => by cases e; exact h5) (fun k e => by cases e) h1.size), hK.blk h2 (fun e => h6 (Option.some.inj e)) (by simp), hb, h4, h5, h6⟩
end

set_option maxHeartbeats 16000000 in
theorem ownersFreeze_walk (x : MkS) (A : Option Addr) (c : Nat) (l : List MailV) (A2 : Option Addr) (c2 : Nat) (tg now : Int) (w : World) (hX : FineX x) (hs : Nums w w.heap.size A .u8 x.who) (hsl : x.who.length ≤ 9223372036854775807) (hl : Mails w w.heap.size A2 l) (hn : l.length ≤ 9223372036854775807) :
    Calls Try.prog 7 #[.agg (begv20 x (A, x.who.length, c)).toArray, .slice A2 l.length c2, .agg #[.int .i64 tg, .int .i64 now]] w fun e w' => e = .returned (.bool true) ∧ Below w.heap.size w w' := by
  have hz : Below w.heap.size w ((w.alloc (.cells (begv20 x (A, x.who.length, c)).toArray 68)).alloc (.cells #[.int .i64 tg, .int .i64 now] 69)) := ((Below.refl _ _).alloc (Nat.le_refl _) _).alloc (by simp) _
  have BR := (Blk.new w 68 (begv20 x (A, x.who.length, c))).alloc (.cells #[.int .i64 tg, .int .i64 now] 69)
  have BT := Blk.new1 w (.cells (begv20 x (A, x.who.length, c)).toArray 68) 69 [.int .i64 tg, .int .i64 now]
  have HH := Lib.hid (And.intro hz (And.intro BR (And.intro hs hl)))
  have HT := Lib.hid BT
  have HX := Lib.hid hX
  clear hz BR hs hl hX BT
  have FT : ∀ w', Blk w' (w.heap.size + 1) 69 [.int .i64 tg, .int .i64 now] → w'.cell? ⟨w.heap.size + 1, 0, none⟩ = some (.int .i64 tg) ∧ w'.cell? ⟨w.heap.size + 1, 1, none⟩ = some (.int .i64 now) := fun w' h => ⟨h.cell 0, h.cell 1⟩
  have HD := Lib.hid (And.intro HH.out.1.drew (And.intro HH.out.2.1.drew (And.intro HT.out.drew HH.out.2.2)))
  clear HH HT
  go_enter Try.func7, Try.ntmps7
  go_wp2_with fail
  refine wp_region_p ([(0, true), (1, true), (2, true), (3, true), (4, true), (5, true)]) (fun w' => Blk w' (w.heap.size + 1) 69 [.int .i64 tg, .int .i64 now]) (by kernel_rfl) rfl (by kernel_rfl) (by kernel_rfl) (HD.out.2.2.1) rfl ?_
  intro KP RP TP hKP hTP hTP'
  simp only [List.append_eq, List.cons_append, List.nil_append, pick, nth]
  generalize ((w.alloc (.cells (begv20 x (A, x.who.length, c)).toArray 68)).alloc (.cells #[.int .i64 tg, .int .i64 now] 69)).drew = wd at *
  go_wp2_with (first
    | (apply SeqP.skip; rfl; simp only [Act.put, List.setIfInBounds_toArray, List.set_cons_zero, List.set_cons_succ])
    | (apply SeqP.call; rfl; rfl; (intro w2 hw; have hw := hTP _ hw; ((obtain ⟨q0, q1⟩ := FT _ hw)); go_simp; exact ⟨rfl, rfl⟩); (intro w2 hw; have hw := hTP _ hw; ((obtain ⟨q0, q1⟩ := FT _ hw)); (first | fail)); simp only [Act.put, List.setIfInBounds_toArray, List.set_cons_zero, List.set_cons_succ])
    | (apply SeqP.pure; rfl; (intro w2 hw; have hw := hTP _ hw; ((obtain ⟨q0, q1⟩ := FT _ hw)); go_simp; with_reducible rfl); simp only [Act.put, List.setIfInBounds_toArray, List.set_cons_zero, List.set_cons_succ])
    | (apply SeqP.split; rfl; rfl; all_goals (intro hc; simp only [hc]; try simp only [beq_iff_eq, decide_eq_true_eq, beq_eq_false_iff_ne, decide_eq_false_iff_not, bne_iff_ne, ne_eq, Bool.not_eq_true', Bool.not_eq_false', Int.not_le, Int.not_lt, bne_eq_false_iff_eq, Bool.or_eq_true, Bool.and_eq_true, Bool.or_eq_false_iff] at hc)))
  apply SeqP.nil
  refine hKP _ _ (hTP' _ (HD.out.2.2.1)) ?_
  clear hKP hTP hTP'
  by_cases h1 : (60 : Int) < (l.length : Int)
  case pos =>
    go_wp2_with fail
    refine (lives20_any _).mono ?_
    rintro e w1 ⟨rfl, hb⟩
    have hw1 := below_trans HD.out.1 hb HD.out.1.size
    clear hb
    go_wp2_with fail
    go_ret
    exact ⟨rfl, hw1⟩
  go_wp2_with ((with_reducible refine at_list ?_); first | refine wpList_load_blk rfl 68 _ rfl _ rfl _ _ _ (HD.out.2.1) Try.underlying68 rfl beg20_info ?_)
  have hm1 := made_any x A c _ HX.out (HD.out.2.2.2.1.below HD.out.1 |>.more HD.out.1.size) hsl
  have HM1 := Lib.hid hm1
  clear hm1
  refine HM1.out.mono ?_
  clear HM1
  rintro e w1 (⟨hwon, g, gr, rfl, hgw, hgr, hB1, hR1, hb1⟩ | ⟨hnw, rfl, hb1⟩)
  case inr =>
    have H1 := Lib.hid (And.intro (below_trans HD.out.1 hb1 HD.out.1.size) (And.intro (HD.out.2.1.keep hb1) hnw))
    clear hb1 hnw
    go_wp2_with ((with_reducible refine at_list ?_); first | refine wpList_load_blk rfl 68 _ rfl _ rfl _ _ _ (H1.out.2.1) Try.underlying68 rfl beg20_info ?_)
    refine (made_any x A c _ HX.out (HD.out.2.2.2.1.below H1.out.1 |>.more H1.out.1.size) hsl).mono ?_
    rintro e w2 (⟨hwon, _⟩ | ⟨_, rfl, hb2⟩)
    case inl => have := H1.out.2.2; rw [hwon] at this; cases this
    have H2 := Lib.hid (below_trans H1.out.1 hb2 H1.out.1.size)
    clear hb2
    go_wp2_with fail
    refine (lives20_any _).mono ?_
    rintro e w3 ⟨rfl, hb⟩
    have hw3 := below_trans H2.out hb H2.out.size
    clear hb
    go_wp2_with fail
    go_ret
    exact ⟨rfl, hw3⟩
  have H1 := Lib.hid (And.intro (below_trans HD.out.1 hb1 HD.out.1.size) (And.intro (HD.out.2.1.keep hb1) (And.intro hwon (And.intro hB1 (And.intro hR1 (show w.heap.size ≤ g from by have := HD.out.1.size; omega))))))
  clear hb1 hwon hB1 hgw hgr hR1
  go_wp2_with ((with_reducible refine at_list ?_); first | refine wpList_load_blk rfl 68 _ rfl _ rfl _ _ _ (H1.out.2.1) Try.underlying68 rfl beg20_info ?_)
  refine (made_any x A c _ HX.out (HD.out.2.2.2.1.below H1.out.1 |>.more H1.out.1.size) hsl).mono ?_
  rintro e w2 (⟨_, g2, gr2, rfl, hg2, _, hB2, _, hb2⟩ | ⟨hnw, _⟩)
  case inr => have := H1.out.2.2.1; rw [hnw] at this; cases this
  have H2 := Lib.hid (show FrI w w2 g g2 (mkO x) (mkO x) ∧ Blk w2 gr 78 (ownv (mkO x)) from
    ⟨⟨below_trans H1.out.1 hb2 H1.out.1.size, H1.out.2.2.2.1.keep hb2, hB2, H1.out.2.2.2.2.2, by have := H1.out.1.size; omega, by have := H1.out.2.2.2.1.lt; omega⟩, H1.out.2.2.2.2.1.keep hb2⟩)
  clear hb2 hB2 hg2 H1
  have hgr : gr ≠ g := fun e => by
    subst e
    exact blk_not H2.out.2 (by decide) _ H2.out.1.2.1
  go_wp2_with fail
  refine (freeze_any g (mkO x) tg w2 H2.out.1.2.1 (mk_fine HX.out)).mono ?_
  rintro e w3 ⟨rfl, hB3, hg3⟩
  have H3 := Lib.hid (show FrI w w3 g g2 (frzS (mkO x) tg) (mkO x) ∧ Blk w3 gr 78 (ownv (mkO x)) from
    ⟨H2.out.1.left hB3 (Kept.ofGrown hg3), H2.out.2.grown hg3 (fun e => hgr (Option.some.inj e))⟩)
  clear hB3 hg3 H2
  have c3 : w3.cell? ⟨gr, 3, none⟩ = some (.int .i64 (mkN x)) := H3.out.2.cell 3
  have c2 : w3.cell? ⟨gr, 2, none⟩ = some (.int .i64 (mkSite x)) := H3.out.2.cell 2
  have hcs : (¬ 0 ≤ tg ∧ frzE (mkO x) tg = 2 ∧ frzS (mkO x) tg = wFz (mkO x) false 0) ∨ (0 ≤ tg ∧ ¬ tg < mkN x ∧ frzE (mkO x) tg = 2 ∧ frzS (mkO x) tg = wFz (mkO x) false 0) ∨ (0 ≤ tg ∧ tg < mkN x ∧ (tg != mkSite x) = false ∧ frzE (mkO x) tg = 2 ∧ frzS (mkO x) tg = wFz (mkO x) false 0) ∨ (0 ≤ tg ∧ tg < mkN x ∧ (tg != mkSite x) = true ∧ frzE (mkO x) tg = 0 ∧ frzS (mkO x) tg = wFz (mkO x) true tg) := by
    by_cases h : frzOk (mkO x) tg
    · exact .inr (.inr (.inr ⟨h.1, h.2.1, bne_iff_ne.2 (show tg ≠ mkSite x from h.2.2.1), if_pos h, if_pos h⟩))
    · have he : frzE (mkO x) tg = 2 := if_neg h
      have hs' : frzS (mkO x) tg = wFz (mkO x) false 0 := if_neg h
      by_cases h0 : 0 ≤ tg
      · by_cases h2 : tg < mkN x
        · by_cases h3 : tg = mkSite x
          · exact .inr (.inr (.inl ⟨h0, h2, by simpa using h3, he, hs'⟩))
          · exact absurd ⟨h0, h2, h3, rfl⟩ h
        · exact .inr (.inl ⟨h0, h2, he, hs'⟩)
      · exact .inl ⟨h0, he, hs'⟩
  generalize mkN x = n at c3 hcs
  generalize mkSite x = st at c2 hcs
  rcases hcs with ⟨t1, t4, t5⟩ | ⟨t1, t2, t4, t5⟩ | ⟨t1, t2, t3, t4, t5⟩ | ⟨t1, t2, t3, t4, t5⟩
  all_goals
    rw [t5] at H3
    rw [t4]
    clear t4 t5
    go_wp2_with fail
    refine (otarget_any g _ w3 H3.out.1.2.1 (mk_fine HX.out)).mono ?_
    rintro e w4 ⟨rfl, rfl⟩
  rotate_left 3
  focus
    have H4 := H3
    clear H3 c3 c2
    rw [show targO (wFz (mkO x) true tg) = tg from rfl, show (wFz (mkO x) true tg).fz = true from rfl]
    have hnn : (tg != tg) = false := by simp
    go_wp2_with fail
    refine (oopen_any g _ now w4 H4.out.1.2.1 (mk_fine HX.out)).mono ?_
    rintro e w5 ⟨rfl, hb⟩
    rw [open_frozen]
    have H5 := Lib.hid (H4.out.1.keep hb)
    clear hb H4
    go_wp2_with fail
    refine (freeze_any g _ tg w5 H5.out.2.1 (mk_fine HX.out)).mono ?_
    rintro e w6 ⟨rfl, hB6, hg6⟩
    rw [(frz_again _ _ _).2] at hB6
    rw [(frz_again _ _ _).1]
    have HL := Lib.hid (show ∃ f t, FrI w w6 g g2 (wFz (mkO x) f t) (mkO x) from ⟨_, _, H5.out.left hB6 (Kept.ofGrown hg6)⟩)
    clear hB6 hg6 H5 hnn
    clear t3 t2 t1
  rotate_left 1
  focus
    rw [show targO (wFz (mkO x) false 0) = 0 from rfl, show (wFz (mkO x) false 0).fz = false from rfl]
    have HL := Lib.hid (show ∃ f t, FrI w w4 g g2 (wFz (mkO x) f t) (mkO x) from ⟨_, _, H3.out.1⟩)
    clear t1
    clear H3 c3 c2
  rotate_left 1
  focus
    rw [show targO (wFz (mkO x) false 0) = 0 from rfl, show (wFz (mkO x) false 0).fz = false from rfl]
    have HL := Lib.hid (show ∃ f t, FrI w w4 g g2 (wFz (mkO x) f t) (mkO x) from ⟨_, _, H3.out.1⟩)
    clear t1 t2
    clear H3 c3 c2
  rotate_left 1
  focus
    rw [show targO (wFz (mkO x) false 0) = 0 from rfl, show (wFz (mkO x) false 0).fz = false from rfl]
    have HL := Lib.hid (show ∃ f t, FrI w w4 g g2 (wFz (mkO x) f t) (mkO x) from ⟨_, _, H3.out.1⟩)
    clear t1 t2 t3
    clear H3 c3 c2
  all_goals
    obtain ⟨f, t, hI0⟩ := HL.out
    have HI0 := Lib.hid hI0
    clear hI0 HL
    go_wp2_with fail
    go_loopg [16] l.length (fun q i wr => ∃ j : Nat, q = l.length - j ∧ j ≤ l.length ∧ i = .int .i64 j ∧ FrI w wr g g2 (wFz (acksS (mkO x) ((l.map MailV.m).take j)) f t) (acksS (mkO x) ((l.map MailV.m).take j)))
    case atStart => exact ⟨0, rfl, by omega, rfl, HI0.out⟩
    case round =>
      clear HI0
      obtain ⟨j, hq, hj, rfl, hI⟩ := hrel
      have AA : Aside (gk = l.length - j) := hq
      clear hq
      obtain ⟨wo, rfl⟩ : ∃ wo, wo = wr := ⟨_, rfl⟩
      by_cases hlt : j < l.length
      · have j0 : (0 : Int) ≤ (j : Int) := by omega
        have j1 : (j : Int) < (l.length : Int) := by omega
        obtain ⟨b1, o1, y, rfl, hy, FA, _⟩ := HD.out.2.2.2.2.range hlt
        have HFA := Lib.hid FA
        clear FA
        have hL : (l.map MailV.m)[j]? = some y.m := by rw [List.getElem?_map, hy.out]; rfl
        obtain ⟨o, ho⟩ : ∃ o, acksS (mkO x) ((l.map MailV.m).take j) = o := ⟨_, rfl⟩
        have hF : FineO o := by rw [← ho]; exact fine_acks _ (mk_fine HX.out)
        have hnx : acksS (mkO x) ((l.map MailV.m).take (j + 1)) = ackS o y.m := by rw [acksS_take _ hL, ho]
        have hF2 : FineO (ackS o y.m) := by rw [← hnx]; exact fine_acks _ (mk_fine HX.out)
        rw [ho] at hI
        have HI := Lib.hid (hI.keep (Below.refl _ _).drew)
        obtain ⟨bb, hbb⟩ : ∃ bb, decide (ackOk o y.m) = bb := ⟨_, rfl⟩
        obtain ⟨cc, hcc⟩ : ∃ cc, commitO (ackS o y.m) = cc := ⟨_, rfl⟩
        obtain ⟨uu, huu⟩ : ∃ uu, untilO (ackS o y.m) now = uu := ⟨_, rfl⟩
        have HK := Lib.hid (And.intro hF (And.intro hF2 (And.intro hnx (And.intro hbb (And.intro hcc huu)))))
        have k1 : (bb != bb) = false := by simp
        have k2 : (cc != cc) = false := by simp
        have k3 : (uu != uu) = false := by simp
        clear hL ho hF hF2 hnx hI hbb hcc huu
        go_wp2_with fail
        refine wp_region_p ([(0, true), (1, true), (2, true), (3, true), (4, true), (6, true), (7, true), (8, true), (9, true), (10, true), (5, false), (11, false), (12, true), (13, true), (14, true), (16, true), (15, false), (17, false), (18, true), (19, true), (20, true), (21, true), (22, true), (24, true), (25, true), (23, false), (26, false), (27, true), (28, true)]) (fun w' => Below w.heap.size w w') (by kernel_rfl) rfl (by kernel_rfl) (by kernel_rfl) (HI.out.1) rfl ?_
        intro KP RP TP hKP hTP hTP'
        simp only [List.append_eq, List.cons_append, List.nil_append, pick, nth]
        generalize wo.drew = wp at *
        go_wp2_with (first
          | (apply SeqP.skip; rfl; simp only [Act.put, List.setIfInBounds_toArray, List.set_cons_zero, List.set_cons_succ])
          | (apply SeqP.pure; rfl; (intro w2 hw; have hw := hTP _ hw; exact exec_load_range 43 _ rfl _ _ rfl _ (HFA.out _ hw) _ Try.underlying43 rfl mail_info); simp only [Act.put, List.setIfInBounds_toArray, List.set_cons_zero, List.set_cons_succ])
          | (apply SeqP.call; rfl; rfl; (intro w2 hw; have hw := hTP _ hw; (skip); go_simp; exact ⟨rfl, rfl⟩); (intro w2 hw; have hw := hTP _ hw; (skip); (first | fail)); simp only [Act.put, List.setIfInBounds_toArray, List.set_cons_zero, List.set_cons_succ])
          | (apply SeqP.pure; rfl; (intro w2 hw; have hw := hTP _ hw; (skip); go_simp; with_reducible rfl); simp only [Act.put, List.setIfInBounds_toArray, List.set_cons_zero, List.set_cons_succ])
          | (apply SeqP.split; rfl; rfl; all_goals (intro hc; simp only [hc]; try simp only [beq_iff_eq, decide_eq_true_eq, beq_eq_false_iff_ne, decide_eq_false_iff_not, bne_iff_ne, ne_eq, Bool.not_eq_true', Bool.not_eq_false', Int.not_le, Int.not_lt, bne_eq_false_iff_eq, Bool.or_eq_true, Bool.and_eq_true, Bool.or_eq_false_iff] at hc)))
        apply SeqP.eff
        · rfl
        intro KE hKE
        go_wp2_with fail
        refine (ack_any g (wFz o f t) y wp HI.out.2.1 HK.out.1).mono ?_
        rintro e w7 ⟨rfl, hB, hK⟩
        rw [wFz_ack] at hB
        rw [wFz_ok, HK.out.2.2.2.1]
        have H7 := Lib.hid (HI.out.left hB hK)
        clear hB hK HI
        refine hKE _ _ (hTP' _ H7.out.1) ?_
        clear hKE KE
        go_wp2_with (first
          | (apply SeqP.skip; rfl; simp only [Act.put, List.setIfInBounds_toArray, List.set_cons_zero, List.set_cons_succ])
          | (apply SeqP.pure; rfl; (intro w2 hw; have hw := hTP _ hw; exact exec_load_range 43 _ rfl _ _ rfl _ (HFA.out _ hw) _ Try.underlying43 rfl mail_info); simp only [Act.put, List.setIfInBounds_toArray, List.set_cons_zero, List.set_cons_succ])
          | (apply SeqP.call; rfl; rfl; (intro w2 hw; have hw := hTP _ hw; (skip); go_simp; exact ⟨rfl, rfl⟩); (intro w2 hw; have hw := hTP _ hw; (skip); (first | fail)); simp only [Act.put, List.setIfInBounds_toArray, List.set_cons_zero, List.set_cons_succ])
          | (apply SeqP.pure; rfl; (intro w2 hw; have hw := hTP _ hw; (skip); go_simp; with_reducible rfl); simp only [Act.put, List.setIfInBounds_toArray, List.set_cons_zero, List.set_cons_succ])
          | (apply SeqP.split; rfl; rfl; all_goals (intro hc; simp only [hc]; try simp only [beq_iff_eq, decide_eq_true_eq, beq_eq_false_iff_ne, decide_eq_false_iff_not, bne_iff_ne, ne_eq, Bool.not_eq_true', Bool.not_eq_false', Int.not_le, Int.not_lt, bne_eq_false_iff_eq, Bool.or_eq_true, Bool.and_eq_true, Bool.or_eq_false_iff] at hc)))
        apply SeqP.eff
        · rfl
        intro KE hKE
        go_wp2_with fail
        refine (ack_any g2 o y w7 H7.out.2.2.1 HK.out.1).mono ?_
        rintro e w8 ⟨rfl, hB, hK⟩
        rw [HK.out.2.2.2.1]
        have H8 := Lib.hid (H7.out.right hB hK)
        clear hB hK H7
        refine hKE _ _ (hTP' _ H8.out.1) ?_
        clear hKE KE
        go_wp2_with (first
          | (apply SeqP.skip; rfl; simp only [Act.put, List.setIfInBounds_toArray, List.set_cons_zero, List.set_cons_succ])
          | (apply SeqP.call; rfl; rfl; (intro w2 hw; have hw := hTP _ hw; (skip); go_simp; exact ⟨rfl, rfl⟩); (intro w2 hw; have hw := hTP _ hw; (skip); (first | fail)); simp only [Act.put, List.setIfInBounds_toArray, List.set_cons_zero, List.set_cons_succ])
          | (apply SeqP.pure; rfl; (intro w2 hw; have hw := hTP _ hw; (skip); go_simp; with_reducible rfl); simp only [Act.put, List.setIfInBounds_toArray, List.set_cons_zero, List.set_cons_succ])
          | (apply SeqP.split; rfl; rfl; all_goals (intro hc; simp only [hc]; try simp only [beq_iff_eq, decide_eq_true_eq, beq_eq_false_iff_ne, decide_eq_false_iff_not, bne_iff_ne, ne_eq, Bool.not_eq_true', Bool.not_eq_false', Int.not_le, Int.not_lt, bne_eq_false_iff_eq, Bool.or_eq_true, Bool.and_eq_true, Bool.or_eq_false_iff] at hc)))
        apply SeqP.eff
        · rfl
        intro KE hKE
        go_wp2_with fail
        refine (commit_any g _ w8 H8.out.2.1 HK.out.2.1.1).mono ?_
        rintro e w9 ⟨rfl, hb⟩
        rw [show commitO (wFz (ackS o y.m) f t) = cc from HK.out.2.2.2.2.1]
        have H9 := Lib.hid (H8.out.keep hb)
        clear hb H8
        refine hKE _ _ (hTP' _ H9.out.1) ?_
        clear hKE KE
        go_wp2_with (first
          | (apply SeqP.skip; rfl; simp only [Act.put, List.setIfInBounds_toArray, List.set_cons_zero, List.set_cons_succ])
          | (apply SeqP.call; rfl; rfl; (intro w2 hw; have hw := hTP _ hw; (skip); go_simp; exact ⟨rfl, rfl⟩); (intro w2 hw; have hw := hTP _ hw; (skip); (first | fail)); simp only [Act.put, List.setIfInBounds_toArray, List.set_cons_zero, List.set_cons_succ])
          | (apply SeqP.pure; rfl; (intro w2 hw; have hw := hTP _ hw; (skip); go_simp; with_reducible rfl); simp only [Act.put, List.setIfInBounds_toArray, List.set_cons_zero, List.set_cons_succ])
          | (apply SeqP.split; rfl; rfl; all_goals (intro hc; simp only [hc]; try simp only [beq_iff_eq, decide_eq_true_eq, beq_eq_false_iff_ne, decide_eq_false_iff_not, bne_iff_ne, ne_eq, Bool.not_eq_true', Bool.not_eq_false', Int.not_le, Int.not_lt, bne_eq_false_iff_eq, Bool.or_eq_true, Bool.and_eq_true, Bool.or_eq_false_iff] at hc)))
        apply SeqP.eff
        · rfl
        intro KE hKE
        go_wp2_with fail
        refine (commit_any g2 _ w9 H9.out.2.2.1 HK.out.2.1.1).mono ?_
        rintro e w10 ⟨rfl, hb⟩
        rw [show commitO (ackS o y.m) = cc from HK.out.2.2.2.2.1]
        have H10 := Lib.hid (H9.out.keep hb)
        clear hb H9
        refine hKE _ _ (hTP' _ H10.out.1) ?_
        clear hKE KE
        go_wp2_with (first
          | (apply SeqP.skip; rfl; simp only [Act.put, List.setIfInBounds_toArray, List.set_cons_zero, List.set_cons_succ])
          | (apply SeqP.call; rfl; rfl; (intro w2 hw; have hw := hTP _ hw; (skip); go_simp; exact ⟨rfl, rfl⟩); (intro w2 hw; have hw := hTP _ hw; (skip); (first | fail)); simp only [Act.put, List.setIfInBounds_toArray, List.set_cons_zero, List.set_cons_succ])
          | (apply SeqP.pure; rfl; (intro w2 hw; have hw := hTP _ hw; (skip); go_simp; with_reducible rfl); simp only [Act.put, List.setIfInBounds_toArray, List.set_cons_zero, List.set_cons_succ])
          | (apply SeqP.split; rfl; rfl; all_goals (intro hc; simp only [hc]; try simp only [beq_iff_eq, decide_eq_true_eq, beq_eq_false_iff_ne, decide_eq_false_iff_not, bne_iff_ne, ne_eq, Bool.not_eq_true', Bool.not_eq_false', Int.not_le, Int.not_lt, bne_eq_false_iff_eq, Bool.or_eq_true, Bool.and_eq_true, Bool.or_eq_false_iff] at hc)))
        apply SeqP.eff
        · rfl
        intro KE hKE
        go_wp2_with fail
        refine (until_any g _ now w10 H10.out.2.1 HK.out.2.1).mono ?_
        rintro e w11 ⟨rfl, hb⟩
        rw [show untilO (wFz (ackS o y.m) f t) now = uu from HK.out.2.2.2.2.2]
        have H11 := Lib.hid (H10.out.keep hb)
        clear hb H10
        refine hKE _ _ (hTP' _ H11.out.1) ?_
        clear hKE KE
        go_wp2_with (first
          | (apply SeqP.skip; rfl; simp only [Act.put, List.setIfInBounds_toArray, List.set_cons_zero, List.set_cons_succ])
          | (apply SeqP.call; rfl; rfl; (intro w2 hw; have hw := hTP _ hw; (skip); go_simp; exact ⟨rfl, rfl⟩); (intro w2 hw; have hw := hTP _ hw; (skip); (first | fail)); simp only [Act.put, List.setIfInBounds_toArray, List.set_cons_zero, List.set_cons_succ])
          | (apply SeqP.pure; rfl; (intro w2 hw; have hw := hTP _ hw; (skip); go_simp; with_reducible rfl); simp only [Act.put, List.setIfInBounds_toArray, List.set_cons_zero, List.set_cons_succ])
          | (apply SeqP.split; rfl; rfl; all_goals (intro hc; simp only [hc]; try simp only [beq_iff_eq, decide_eq_true_eq, beq_eq_false_iff_ne, decide_eq_false_iff_not, bne_iff_ne, ne_eq, Bool.not_eq_true', Bool.not_eq_false', Int.not_le, Int.not_lt, bne_eq_false_iff_eq, Bool.or_eq_true, Bool.and_eq_true, Bool.or_eq_false_iff] at hc)))
        apply SeqP.eff
        · rfl
        intro KE hKE
        go_wp2_with fail
        refine (until_any g2 _ now w11 H11.out.2.2.1 HK.out.2.1).mono ?_
        rintro e w12 ⟨rfl, hb⟩
        rw [show untilO (ackS o y.m) now = uu from HK.out.2.2.2.2.2]
        have H12 := Lib.hid (H11.out.keep hb)
        clear hb H11
        refine hKE _ _ (hTP' _ H12.out.1) ?_
        clear hKE KE
        go_wp2_with (first
          | (apply SeqP.skip; rfl; simp only [Act.put, List.setIfInBounds_toArray, List.set_cons_zero, List.set_cons_succ])
          | (apply SeqP.call; rfl; rfl; (intro w2 hw; have hw := hTP _ hw; (skip); go_simp; exact ⟨rfl, rfl⟩); (intro w2 hw; have hw := hTP _ hw; (skip); (first | fail)); simp only [Act.put, List.setIfInBounds_toArray, List.set_cons_zero, List.set_cons_succ])
          | (apply SeqP.pure; rfl; (intro w2 hw; have hw := hTP _ hw; (skip); go_simp; with_reducible rfl); simp only [Act.put, List.setIfInBounds_toArray, List.set_cons_zero, List.set_cons_succ])
          | (apply SeqP.split; rfl; rfl; all_goals (intro hc; simp only [hc]; try simp only [beq_iff_eq, decide_eq_true_eq, beq_eq_false_iff_ne, decide_eq_false_iff_not, bne_iff_ne, ne_eq, Bool.not_eq_true', Bool.not_eq_false', Int.not_le, Int.not_lt, bne_eq_false_iff_eq, Bool.or_eq_true, Bool.and_eq_true, Bool.or_eq_false_iff] at hc)))
        apply SeqP.nil
        refine hKP _ _ (hTP' _ (H12.out.1)) ?_
        clear hKP hTP hTP'
        go_wp2_with fail
        go_roundg (l.length - (j + 1))
        case measure => have hkk := AA.out; omega
        case rel => exact ⟨j + 1, rfl, by omega, by go_num, by rw [HK.out.2.2.1]; exact H12.out⟩
      · obtain rfl : j = l.length := by omega
        have j1 : ¬ (l.length : Int) < (l.length : Int) := by omega
        have HI := Lib.hid hI.1
        clear hI
        go_wp2_with fail
        refine (lives20_any _).mono ?_
        rintro e w11 ⟨rfl, hb⟩
        have hw := below_trans HI.out hb HI.out.size
        clear hb
        go_wp2_with fail
        go_ret
        exact ⟨rfl, hw⟩
end Go.Proofs.Ytdphfhenjndkkaa

set_option linter.unusedSimpArgs false
set_option linter.unusedVariables false
set_option maxRecDepth 100000
namespace Go.Sq
open Go Go.ChangeShapes Go.WideShapes Go.RowKit Go.Deep
section
variable {H : Type} {enc : TypeId × Value → H} {P : Program} {w : World} {base : Nat} {spare : Nat → Bool} {held : Bool}
theorem open_rows_in {k : Nat} {t e : TypeId} {C : Nat} {v : Value} {y : DataW H × List MemPlace} (ht : P.underlying t = some (.slice e))
    (hC : P.cellsOf e = C) (hpos : 0 < C) (h : DataW.trod enc P w base spare held k t [v] = some y) :
    ∃ (a : Option Addr) (len cap : Nat), v = .slice a len cap ∧ len ≤ cap ∧ cap ≤ maxLen ∧ (0 < len → ∃ b off, a = some ⟨b, off, none⟩ ∧ b < w.heap.size ∧ ∀ i, i < len →
      ∃ (cs : List Value) (n : Nat) (y : DataW H × List MemPlace), cs.length = C ∧ (∀ k, k < C → w.cell? ⟨b, off + i * C + k, none⟩ = cs[k]?) ∧ DataW.trod enc P w base spare held n e cs = some y) := by
  rcases open_slice ht h with ⟨hcs, _⟩ | ⟨a, l, c, m, n, D, Pl, hcs, _, hl, hm, hmm, _, hi⟩
  · cases hcs
    exact ⟨none, 0, 0, rfl, Nat.le_refl _, by simp [maxLen], fun h => absurd h (by omega)⟩
  · cases hcs
    refine ⟨some a, l, c, rfl, hl, hm, fun hlen => ?_⟩
    obtain ⟨b, off, rfl, hbl⟩ : ∃ b off, a = ⟨b, off, none⟩ ∧ b < w.heap.size := by
      obtain ⟨cs', hc, _⟩ := hi 0 (by rw [hmm]; split <;> omega)
      rw [hC] at hc
      obtain ⟨_, hcl, hat⟩ := World.cells?_some hc
      have h0 := hat 0 hpos
      rw [List.getElem?_eq_getElem (show 0 < cs'.length by omega)] at h0
      have hsp : a.spot = none := by simpa [Addr.add] using World.cell?_spot h0
      have hbl := World.block_lt_of_cell? _ _ h0
      rw [add_block, add_block] at hbl
      obtain ⟨b, off, spot⟩ := a
      obtain rfl : spot = none := hsp
      exact ⟨b, off, rfl, hbl⟩
    refine ⟨b, off, rfl, hbl, fun i hil => ?_⟩
    obtain ⟨cs', hc, ht'⟩ := hi i (by rw [hmm]; split <;> omega)
    rw [hC] at hc
    obtain ⟨_, hcl, hat⟩ := World.cells?_some hc
    refine ⟨cs', n, _, hcl, fun k hk => ?_, ht'⟩
    have h3 := hat k hk
    rw [add_none, add_none] at h3
    exact h3
end
end Go.Sq

set_option linter.unusedSimpArgs false
set_option linter.unusedVariables false
set_option maxRecDepth 100000
namespace Go.Proofs.Ytdphfhenjndkkaa
open Go Go.ChangeShapes Go.WideShapes Go.RowKit Go.Deep Go.Sq Go.Wd Go.Arch
section
variable {H : Type} {enc : TypeId × Value → H} {w : World} {base : Nat} {spare : Nat → Bool} {held : Bool}

theorem open_log {k : Nat} {v : Value} {y : DataW H × List MemPlace} (h : DataW.trod enc Try.prog w base spare held k 35 [v] = some y) :
    ∃ (sl : SlcE) (es : List Ent), v = .slice sl.1 sl.2.1 sl.2.2 ∧ LogAt w w.heap.size sl es ∧ ∀ e ∈ es, wfEnt e := by
  obtain ⟨A, len, cap, rfl, h1, h2, h3⟩ := open_rows_in Try.underlying35 (C := 6) (by kernel_rfl) (by omega) h
  have h2' : cap ≤ 9223372036854775807 := by simp only [maxLen] at h2; omega
  rcases Nat.eq_zero_or_pos len with h0 | h0
  · subst h0
    exact ⟨(A, 0, cap), [], rfl, ⟨rfl, h1, h2', Ents.nil⟩, by simp⟩
  · obtain ⟨b, off, rfl, hb, hrow⟩ := h3 h0
    obtain ⟨l, hl, hp⟩ := list_of (p := fun i e => EntAt w b (off + i * 6) e ∧ wfEnt e) len (fun i hi => by
      obtain ⟨cs, n, y, hcl, hcell, ht⟩ := hrow i hi
      obtain ⟨e, rfl, hw⟩ := open_ent ht
      exact ⟨e, ⟨hcell 0 (by omega), hcell 1 (by omega), hcell 2 (by omega), hcell 3 (by omega), hcell 4 (by omega), hcell 5 (by omega)⟩, hw⟩)
    subst hl
    refine ⟨(some ⟨b, off, none⟩, l.length, cap), l, rfl, ⟨rfl, h1, h2', fun _ => ⟨b, off, rfl, hb, fun i e he => (hp i e he).1⟩⟩, fun e he => ?_⟩
    obtain ⟨i, hi⟩ := List.getElem?_of_mem he
    exact (hp i e hi).2
theorem open_any_slice {k : Nat} {t e : TypeId} {v : Value} {y : DataW H × List MemPlace} (ht : Try.prog.underlying t = some (.slice e)) (h : DataW.trod enc Try.prog w base spare held k t [v] = some y) : ∃ sl : SlcE, v = .slice sl.1 sl.2.1 sl.2.2 := by
  rcases open_slice ht h with ⟨hcs, _⟩ | ⟨a, l, c, m, n, D, Pl, hcs, _⟩
  · cases hcs
    exact ⟨(none, 0, 0), rfl⟩
  · cases hcs
    exact ⟨(some a, l, c), rfl⟩
theorem rec_fields {fs : Array Field} (hs : Try.prog.underlying 53 = some (.struct fs)) {n : Nat} {cs : List Value} (hl : cs.length = fs.size)
    (hf : ∀ (j : Nat) (f : Field), fs[j]? = some f → ∃ (c : Value) (y : DataW H × List MemPlace), cs[j]? = some c ∧ DataW.trod enc Try.prog w base spare held n f.type [c] = some y) :
    ∃ x : RecV, cs = rcv x ∧ LogAt w w.heap.size x.es x.ents ∧ ∀ e ∈ x.ents, wfEnt e := by
  rw [Try.underlying53] at hs
  cases hs
  obtain ⟨c0, c1, c2, c3, c4, c5, c6, c7, rfl⟩ := len8 hl
  obtain ⟨_, _, e0, t0⟩ := hf 0 _ rfl
  obtain ⟨_, _, e1, t1⟩ := hf 1 _ rfl
  obtain ⟨_, _, e2, t2⟩ := hf 2 _ rfl
  obtain ⟨_, _, e3, t3⟩ := hf 3 _ rfl
  obtain ⟨_, _, e4, t4⟩ := hf 4 _ rfl
  obtain ⟨_, _, e5, t5⟩ := hf 5 _ rfl
  obtain ⟨_, _, e6, t6⟩ := hf 6 _ rfl
  obtain ⟨_, _, e7, t7⟩ := hf 7 _ rfl
  cases e0; cases e1; cases e2; cases e3; cases e4; cases e5; cases e6; cases e7
  obtain ⟨z0, q0, _, _⟩ := DataW.trod_int Try.underlying3 t0
  obtain ⟨z1, q1, _, _⟩ := DataW.trod_int Try.underlying3 t1
  obtain ⟨z2, q2, _, _⟩ := DataW.trod_int Try.underlying3 t2
  obtain ⟨z3, q3, _, _⟩ := DataW.trod_int Try.underlying3 t3
  obtain ⟨z4, q4, _, _⟩ := DataW.trod_int Try.underlying3 t4
  obtain ⟨z5, q5, _, _⟩ := DataW.trod_int Try.underlying3 t5
  cases q0; cases q1; cases q2; cases q3; cases q4; cases q5
  obtain ⟨sl, es, rfl, hE, hw⟩ := open_log t6
  obtain ⟨fs, rfl⟩ := open_any_slice Try.underlying51 t7
  exact ⟨⟨z0, z1, z2, z3, z4, z5, sl, es, fs⟩, rfl, hE, hw⟩
theorem reg_fields {fs : Array Field} (hs : Try.prog.underlying 37 = some (.struct fs)) {n : Nat} {cs : List Value} (hl : cs.length = fs.size)
    (hf : ∀ (j : Nat) (f : Field), fs[j]? = some f → ∃ (c : Value) (y : DataW H × List MemPlace), cs[j]? = some c ∧ DataW.trod enc Try.prog w base spare held n f.type [c] = some y) :
    ∃ (r : RegS) (sl : SlcE), cs = rgv r sl ∧ LogAt w w.heap.size sl r.log ∧ ∀ e ∈ r.log, wfEnt e := by
  rw [Try.underlying37] at hs
  cases hs
  obtain ⟨c0, c1, c2, c3, rfl⟩ := len4 hl
  obtain ⟨_, _, e0, t0⟩ := hf 0 _ rfl
  obtain ⟨_, _, e1, t1⟩ := hf 1 _ rfl
  obtain ⟨_, _, e2, t2⟩ := hf 2 _ rfl
  obtain ⟨_, _, e3, t3⟩ := hf 3 _ rfl
  cases e0; cases e1; cases e2; cases e3
  obtain ⟨z0, q0, _, _⟩ := DataW.trod_int Try.underlying3 t0
  obtain ⟨z1, q1, _, _⟩ := DataW.trod_int Try.underlying3 t1
  obtain ⟨z3, q3, _, _⟩ := DataW.trod_int Try.underlying3 t3
  cases q0; cases q1; cases q3
  obtain ⟨sl, es, rfl, hE, hw⟩ := open_log t2
  exact ⟨⟨z0, z1, es, z3⟩, sl, rfl, hE, hw⟩
theorem open_rec_cells {n : Nat} {cs : List Value} {y : DataW H × List MemPlace} (h : DataW.trod enc Try.prog w base spare held n 53 cs = some y) : ∃ x : RecV, cs = rcv x ∧ LogAt w w.heap.size x.es x.ents ∧ ∀ e ∈ x.ents, wfEnt e := by
  obtain ⟨hl, m, hf⟩ := cells_fields Try.underlying53 (by kernel_rfl) (by kernel_rfl) h
  exact rec_fields Try.underlying53 hl hf
theorem open_rec {r : Reach} {b0 : Nat} {v : Value} {d : DataW H} {p : List MemPlace} (hv : Value.okWide Try.prog w r b0 53 v) (h : DataW.Trod enc Try.prog w base spare held 53 v d p) :
    ∃ x : RecV, v = .agg (rcv x).toArray ∧ LogAt w w.heap.size x.es x.ents ∧ ∀ e ∈ x.ents, wfEnt e := by
  obtain ⟨l, m, rfl, hl, hf⟩ := open_fields Try.underlying53 (by kernel_rfl) (by kernel_rfl) hv h
  obtain ⟨x, rfl, hx⟩ := rec_fields Try.underlying53 hl hf
  exact ⟨x, rfl, hx⟩
theorem open_register {r : Reach} {b0 : Nat} {v : Value} {d : DataW H} {p : List MemPlace} (hv : Value.okWide Try.prog w r b0 37 v) (h : DataW.Trod enc Try.prog w base spare held 37 v d p) :
    ∃ (r : RegS) (sl : SlcE), v = .agg (rgv r sl).toArray ∧ LogAt w w.heap.size sl r.log ∧ ∀ e ∈ r.log, wfEnt e := by
  obtain ⟨l, m, rfl, hl, hf⟩ := open_fields Try.underlying37 (by kernel_rfl) (by kernel_rfl) hv h
  obtain ⟨x, sl, rfl, hx⟩ := reg_fields Try.underlying37 hl hf
  exact ⟨x, sl, rfl, hx⟩
theorem open_recs {r : Reach} {b0 : Nat} {v : Value} {d : DataW H} {p : List MemPlace} (hv : Value.okWide Try.prog w r b0 44 v) (h : DataW.Trod enc Try.prog w base spare held 44 v d p) :
    ∃ (A : Option Addr) (l : List RecV) (c : Nat), v = .slice A l.length c ∧ l.length ≤ c ∧ c ≤ 9223372036854775807 ∧ Recs w w.heap.size A l := by
  obtain ⟨A, len, cap, rfl, h1, h2, h3⟩ := open_rows_any Try.underlying44 (C := 8) (by kernel_rfl) (by omega) hv h
  have h2' : cap ≤ 9223372036854775807 := by simp only [maxLen] at h2; omega
  rcases Nat.eq_zero_or_pos len with h0 | h0
  · subst h0
    exact ⟨A, [], cap, rfl, h1, h2', by simp, fun h => absurd h (by simp)⟩
  · obtain ⟨b, off, rfl, hb, hrow⟩ := h3 h0
    obtain ⟨l, hl, hp⟩ := list_of (p := fun i e => RecAt w b (off + i * 8) e ∧ LogAt w w.heap.size e.es e.ents) len (fun i hi => by
      obtain ⟨cs, n, y, hcl, hcell, ht⟩ := hrow i hi
      obtain ⟨x, rfl, hE, _⟩ := open_rec_cells ht
      exact ⟨x, ⟨hcell 0 (by omega), hcell 1 (by omega), hcell 2 (by omega), hcell 3 (by omega), hcell 4 (by omega), hcell 5 (by omega), hcell 6 (by omega), hcell 7 (by omega)⟩, hE⟩)
    subst hl
    refine ⟨_, l, cap, rfl, h1, h2', fun x hx => ?_, fun _ => ⟨b, off, rfl, hb, fun i e he => (hp i e he).1⟩⟩
    obtain ⟨i, hi⟩ := List.getElem?_of_mem hx
    exact (hp i x hi).2
end
end Go.Proofs.Ytdphfhenjndkkaa

set_option linter.unusedSimpArgs false
set_option linter.unusedVariables false
set_option maxRecDepth 100000
namespace Go.Sq
open Go Go.ChangeShapes Go.WideShapes Go.RowKit Go.Deep
section
variable {H : Type} {enc : TypeId × Value → H} {P : Program} {w : World} {base : Nat} {spare : Nat → Bool} {held : Bool}

theorem ints_of {n k : Nat} {t : TypeId} {fs : Array Field} {l : List Value} {x : DataW H × List MemPlace} (hs : P.underlying t = some (.struct fs)) (hone : oneCellFields P fs = true)
    (hC : P.cellsOf t = fs.size) (h5 : fs.size = k) (hty : ∀ (j : Nat) (f : Field), fs[j]? = some f → P.underlying f.type = some (.int .i64)) (h : DataW.trod enc P w base spare held n t l = some x) :
    ∃ zs : List Int, zs.length = k ∧ l = zs.map (.int .i64) ∧ ∀ z ∈ zs, (Lit.int .i64 z).wf = true := by
  obtain ⟨hl, m, hf⟩ := cells_fields hs hone hC h
  rw [h5] at hl
  obtain ⟨zs, hz, hp⟩ := list_of (p := fun i z => l[i]? = some (.int .i64 z) ∧ (Lit.int .i64 z).wf = true) k (fun j hj => by
    have hj' : j < fs.size := by omega
    obtain ⟨c', y, h1, h2⟩ := hf j _ (Array.getElem?_eq_getElem hj')
    obtain ⟨z, hz, _, hw⟩ := DataW.trod_int (hty j _ (Array.getElem?_eq_getElem hj')) h2
    obtain rfl : c' = .int .i64 z := by simpa using hz
    exact ⟨z, h1, hw⟩)
  refine ⟨zs, hz, List.ext_getElem? (fun i => ?_), fun z hzm => ?_⟩
  · rw [List.getElem?_map]
    by_cases hi : i < k
    · have := (hp i zs[i] (List.getElem?_eq_getElem (by omega))).1
      rw [this, List.getElem?_eq_getElem (by omega)]
      rfl
    · rw [List.getElem?_eq_none (by omega), List.getElem?_eq_none (by omega)]
      rfl
  · obtain ⟨i, hi, rfl⟩ := List.mem_iff_getElem.1 hzm
    exact (hp i _ (List.getElem?_eq_getElem hi)).2
end
end Go.Sq

set_option linter.unusedSimpArgs false
set_option linter.unusedVariables false
set_option maxRecDepth 100000
namespace Go.Sq
open Go Go.ChangeShapes Go.WideShapes Go.RowKit Go.Deep
section
variable {H : Type} {enc : TypeId × Value → H} {P : Program} {w : World} {base : Nat} {spare : Nat → Bool} {held : Bool} {α : Type}

theorem open_sl_in (R : Gr.Enc P α) {q : α → Prop} {k : Nat} {v : Value} {y : DataW H × List MemPlace} (hC : P.cellsOf R.elem = R.size)
    (hdec : ∀ (n : Nat) (cs : List Value) (y : DataW H × List MemPlace), DataW.trod enc P w base spare held n R.elem cs = some y → ∃ a, cs = R.enc a ∧ q a)
    (h : DataW.trod enc P w base spare held k R.slice [v] = some y) :
    ∃ (A : Option Addr) (l : List α) (c : Nat), v = .slice A l.length c ∧ l.length ≤ c ∧ c ≤ 9223372036854775807 ∧ Gr.Sl R w w.heap.size A l ∧ (∀ a ∈ l, q a) ∧ (A = none → c = 0) := by
  obtain ⟨A, len, cap, rfl, h1, h2, h3⟩ := open_rows_in R.und hC R.pos h
  have h2' : cap ≤ 9223372036854775807 := by simp only [maxLen] at h2; omega
  have hnil : A = none → cap = 0 := fun e => by
    subst e
    rcases open_slice R.und h with ⟨hcs, _⟩ | ⟨a, l, c, m, n, D, Pl, hcs, _⟩
    · injection hcs with hcs
      injection hcs
    · injection hcs with hcs
      injection hcs with h
      cases h
  rcases Nat.eq_zero_or_pos len with h0 | h0
  · subst h0
    exact ⟨A, [], cap, rfl, h1, h2', Gr.Sl.nil, by simp, hnil⟩
  · obtain ⟨b, off, rfl, hb, hrow⟩ := h3 h0
    obtain ⟨l, hl, hp⟩ := list_of (p := fun i e => Gr.At R w b (off + i * R.size) e ∧ q e) len (fun i hi => by
      obtain ⟨cs, n, y, hcl, hcell, ht⟩ := hrow i hi
      obtain ⟨a, rfl, hq⟩ := hdec n cs y ht
      exact ⟨a, fun k hk => hcell k hk, hq⟩)
    subst hl
    refine ⟨some ⟨b, off, none⟩, l, cap, rfl, h1, h2', fun _ => ⟨b, off, rfl, hb, fun i e he => (hp i e he).1⟩, fun a ha => ?_, hnil⟩
    obtain ⟨i, hi⟩ := List.getElem?_of_mem ha
    exact (hp i a hi).2
theorem open_sl (R : Gr.Enc P α) {q : α → Prop} {r : Reach} {b0 : Nat} {v : Value} {d : DataW H} {p : List MemPlace} (hC : P.cellsOf R.elem = R.size)
    (hdec : ∀ (n : Nat) (cs : List Value) (y : DataW H × List MemPlace), DataW.trod enc P w base spare held n R.elem cs = some y → ∃ a, cs = R.enc a ∧ q a)
    (hv : Value.okWide P w r b0 R.slice v) (h : DataW.Trod enc P w base spare held R.slice v d p) :
    ∃ (A : Option Addr) (l : List α) (c : Nat), v = .slice A l.length c ∧ l.length ≤ c ∧ c ≤ 9223372036854775807 ∧ Gr.Sl R w w.heap.size A l ∧ (∀ a ∈ l, q a) ∧ (A = none → c = 0) := by
  obtain ⟨a0, len, cap, rfl⟩ := okWide_slice R.und hv
  obtain ⟨fuel, hf⟩ := h
  exact open_sl_in R hC hdec (by simpa [Value.cells] using hf)
end
end Go.Sq

set_option linter.unusedSimpArgs false
set_option linter.unusedVariables false
set_option maxRecDepth 100000
namespace Go.Proofs.Ytdphfhenjndkkaa
open Go Go.ChangeShapes Go.WideShapes Go.RowKit Go.Deep Go.Sq Go.Wd Go.Arch
section
variable {H : Type} {enc : TypeId × Value → H} {w : World} {base : Nat} {spare : Nat → Bool} {held : Bool}

theorem len18 {α : Type} {l : List α} (h : l.length = 18) : ∃ a0 a1 a2 a3 a4 a5 a6 a7 a8 a9 b0 b1 b2 b3 b4 b5 b6 b7, l = [a0, a1, a2, a3, a4, a5, a6, a7, a8, a9, b0, b1, b2, b3, b4, b5, b6, b7] := by
  match l, h with
  | [a0, a1, a2, a3, a4, a5, a6, a7, a8, a9, b0, b1, b2, b3, b4, b5, b6, b7], _ => exact ⟨a0, a1, a2, a3, a4, a5, a6, a7, a8, a9, b0, b1, b2, b3, b4, b5, b6, b7, rfl⟩

set_option maxHeartbeats 2000000 in
theorem open_mail {n : Nat} {cs : List Value} {y : DataW H × List MemPlace} (h : DataW.trod enc Try.prog w base spare held n 43 cs = some y) : ∃ x : MailV, cs = mailv x ∧ LogAt w w.heap.size x.es x.m.ents := by
  have hC : Try.prog.cellsOf 43 = 18 := by kernel_rfl
  have hCi : Try.prog.cellsOf 3 = 1 := by kernel_rfl
  have hCe : Try.prog.cellsOf 35 = 1 := by kernel_rfl
  have hCo : Try.prog.cellsOf 39 = 5 := by kernel_rfl
  have hCa : Try.prog.cellsOf 41 = 3 := by kernel_rfl
  obtain ⟨xs, m, _, _, hl, hlen, hg⟩ := DataW.trod_struct Try.underlying43 h
  rw [hC] at hl
  obtain ⟨c0, c1, c2, c3, c4, c5, c6, c7, c8, c9, b0, b1, b2, b3, b4, b5, b6, b7, rfl⟩ := len18 hl
  have hx : xs.length = 12 := hlen
  have h0 := hg 0 _ rfl
  have h1 := hg 1 _ rfl
  have h2 := hg 2 _ rfl
  have h3 := hg 3 _ rfl
  have h4 := hg 4 _ rfl
  have h5 := hg 5 _ rfl
  have h6 := hg 6 _ rfl
  have h7 := hg 7 _ rfl
  have h8 := hg 8 _ rfl
  have h9 := hg 9 _ rfl
  have h10 := hg 10 _ rfl
  have h11 := hg 11 _ rfl
  simp only [List.getElem_toArray, List.getElem_cons_zero, List.getElem_cons_succ] at h0 h1 h2 h3 h4 h5 h6 h7 h8 h9 h10 h11
  rw [hCi] at h0
  rw [hCi] at h1
  rw [hCi] at h2
  rw [hCi] at h3
  rw [hCi] at h4
  rw [hCi] at h5
  rw [hCi] at h6
  rw [hCi] at h7
  rw [hCi] at h8
  rw [hCe] at h9
  rw [hCo] at h10
  rw [hCa] at h11
  simp only [List.drop_zero, List.take_succ_cons, List.take_zero, List.drop_succ_cons] at h0 h1 h2 h3 h4 h5 h6 h7 h8 h9 h10 h11
  rw [List.getElem?_eq_getElem (show 0 < xs.length by omega)] at h0
  rw [List.getElem?_eq_getElem (show 1 < xs.length by omega)] at h1
  rw [List.getElem?_eq_getElem (show 2 < xs.length by omega)] at h2
  rw [List.getElem?_eq_getElem (show 3 < xs.length by omega)] at h3
  rw [List.getElem?_eq_getElem (show 4 < xs.length by omega)] at h4
  rw [List.getElem?_eq_getElem (show 5 < xs.length by omega)] at h5
  rw [List.getElem?_eq_getElem (show 6 < xs.length by omega)] at h6
  rw [List.getElem?_eq_getElem (show 7 < xs.length by omega)] at h7
  rw [List.getElem?_eq_getElem (show 8 < xs.length by omega)] at h8
  rw [List.getElem?_eq_getElem (show 9 < xs.length by omega)] at h9
  rw [List.getElem?_eq_getElem (show 10 < xs.length by omega)] at h10
  rw [List.getElem?_eq_getElem (show 11 < xs.length by omega)] at h11
  obtain ⟨z0, q0, _, _⟩ := DataW.trod_int Try.underlying3 h0
  obtain ⟨z1, q1, _, _⟩ := DataW.trod_int Try.underlying3 h1
  obtain ⟨z2, q2, _, _⟩ := DataW.trod_int Try.underlying3 h2
  obtain ⟨z3, q3, _, _⟩ := DataW.trod_int Try.underlying3 h3
  obtain ⟨z4, q4, _, _⟩ := DataW.trod_int Try.underlying3 h4
  obtain ⟨z5, q5, _, _⟩ := DataW.trod_int Try.underlying3 h5
  obtain ⟨z6, q6, _, _⟩ := DataW.trod_int Try.underlying3 h6
  obtain ⟨z7, q7, _, _⟩ := DataW.trod_int Try.underlying3 h7
  obtain ⟨z8, q8, _, _⟩ := DataW.trod_int Try.underlying3 h8
  cases q0; cases q1; cases q2; cases q3; cases q4; cases q5; cases q6; cases q7; cases q8
  obtain ⟨sl, es, rfl, hE, _⟩ := open_log h9
  obtain ⟨a, b, c, d, e, h5, _⟩ := five_of (ti := 3) Try.underlying39 (by kernel_rfl) (by kernel_rfl) rfl (by
    intro j f hf
    have hj : j < 5 := (Array.getElem?_eq_some_iff.1 hf).1
    obtain rfl | rfl | rfl | rfl | rfl : j = 0 ∨ j = 1 ∨ j = 2 ∨ j = 3 ∨ j = 4 := by omega
    all_goals
      cases hf
      exact Try.underlying3) h10
  cases h5
  obtain ⟨zs, hz, h6, _⟩ := ints_of (k := 3) Try.underlying41 (by kernel_rfl) (by kernel_rfl) rfl (by
    intro j f hf
    have hj : j < 3 := (Array.getElem?_eq_some_iff.1 hf).1
    obtain rfl | rfl | rfl : j = 0 ∨ j = 1 ∨ j = 2 := by omega
    all_goals
      cases hf
      exact Try.underlying3) h11
  obtain ⟨u0, u1, u2, rfl⟩ := len3 hz
  simp only [List.map_cons, List.map_nil] at h6
  cases h6
  exact ⟨⟨⟨z0, z1, z2, z3, z4, z5, z6, z7, z8, es⟩, sl, (a, b, c, d, e), (u0, u1, u2)⟩, rfl, hE⟩

/-- A slice of mail that comes in. -/
theorem open_mails {r : Reach} {b0 : Nat} {v : Value} {d : DataW H} {p : List MemPlace} (hv : Value.okWide Try.prog w r b0 22 v) (h : DataW.Trod enc Try.prog w base spare held 22 v d p) :
    ∃ (A : Option Addr) (l : List MailV) (c : Nat), v = .slice A l.length c ∧ l.length ≤ c ∧ c ≤ 9223372036854775807 ∧ Mails w w.heap.size A l := by
  obtain ⟨A, l, c, rfl, h1, h2, h3, h4, _⟩ := open_sl mailE (q := fun x => LogAt w w.heap.size x.es x.m.ents) (by kernel_rfl) (fun n cs y h => open_mail h) hv h
  exact ⟨A, l, c, rfl, h1, h2, h3, h4⟩
/-- One piece of mail that comes in. -/
theorem open_mail_one {r : Reach} {b0 : Nat} {v : Value} {d : DataW H} {p : List MemPlace} (hv : Value.okWide Try.prog w r b0 43 v) (h : DataW.Trod enc Try.prog w base spare held 43 v d p) :
    ∃ x : MailV, v = .agg (mailv x).toArray ∧ LogAt w w.heap.size x.es x.m.ents := by
  obtain ⟨⟨l⟩, rfl, hsz⟩ := okWide_struct Try.underlying43 hv
  obtain ⟨fuel, hf⟩ := h
  obtain ⟨x, he, hw⟩ := open_mail (cs := l) hf
  subst he
  exact ⟨x, rfl, hw⟩
end
end Go.Proofs.Ytdphfhenjndkkaa

set_option linter.unusedSimpArgs false
set_option linter.unusedVariables false
set_option maxRecDepth 100000
namespace Go.Proofs.Ytdphfhenjndkkaa
open Go Go.ChangeShapes Go.WideShapes Go.RowKit Go.Deep Go.Sq Go.Wd
section
variable {H : Type} {enc : TypeId × Value → H} {w : World} {base : Nat} {spare : Nat → Bool} {held : Bool}
theorem open_u8s {k : Nat} {v : Value} {y : DataW H × List MemPlace} (h : DataW.trod enc Try.prog w base spare held k 23 [v] = some y) :
    ∃ (A : Option Addr) (l : List Int) (c : Nat), v = .slice A l.length c ∧ l.length ≤ c ∧ c ≤ 9223372036854775807 ∧ Nums w w.heap.size A .u8 l ∧ ∀ x ∈ l, (Lit.int .u8 x).wf = true := by
  obtain ⟨A, len, cap, rfl, h1, h2, h3⟩ := open_rows_in Try.underlying23 (C := 1) (by kernel_rfl) (by omega) h
  have h2' : cap ≤ 9223372036854775807 := by simp only [maxLen] at h2; omega
  rcases Nat.eq_zero_or_pos len with h0 | h0
  · subst h0
    exact ⟨A, [], cap, rfl, h1, h2', fun h => absurd h (by simp), by simp⟩
  · obtain ⟨b, off, rfl, hb, hrow⟩ := h3 h0
    obtain ⟨l, hl, hp⟩ := list_of (p := fun i x => w.cell? ⟨b, off + i, none⟩ = some (.int .u8 x) ∧ (Lit.int .u8 x).wf = true) len (fun i hi => by
      obtain ⟨cs, n, y, hcl, hcell, ht⟩ := hrow i hi
      obtain ⟨z, hz, _, hw⟩ := DataW.trod_int Try.underlying5 ht
      refine ⟨z, ?_, hw⟩
      have := hcell 0 (by omega)
      rw [hz] at this
      simpa using this)
    subst hl
    refine ⟨_, l, cap, rfl, h1, h2', fun _ => ⟨b, off, rfl, hb, fun i e he => (hp i e he).1⟩, fun e he => ?_⟩
    obtain ⟨i, hi⟩ := List.getElem?_of_mem he
    exact (hp i e hi).2
end
end Go.Proofs.Ytdphfhenjndkkaa

set_option linter.unusedSimpArgs false
set_option linter.unusedVariables false
set_option maxRecDepth 100000
namespace Go.Proofs.Ytdphfhenjndkkaa
open Go Go.ChangeShapes Go.WideShapes Go.RowKit Go.Deep Go.Sq Go.Wd Go.Arch
section
variable {H : Type} {enc : TypeId × Value → H} {w : World} {base : Nat} {spare : Nat → Bool} {held : Bool}
theorem open_beg20 {r : Reach} {b0 : Nat} {v : Value} {d : DataW H} {p : List MemPlace} (hv : Value.okWide Try.prog w r b0 68 v) (h : DataW.Trod enc Try.prog w base spare held 68 v d p) :
    ∃ (x : MkS) (A : Option Addr) (c : Nat), v = .agg (begv20 x (A, x.who.length, c)).toArray ∧ FineX x ∧ Nums w w.heap.size A .u8 x.who ∧ x.who.length ≤ 9223372036854775807 := by
  obtain ⟨l, m, rfl, hl, hf⟩ := open_fields Try.underlying68 (by kernel_rfl) (by kernel_rfl) hv h
  obtain ⟨c0, c1, c2, c3, rfl⟩ := len4 hl
  obtain ⟨_, _, e0, t0⟩ := hf 0 _ rfl
  obtain ⟨_, _, e1, t1⟩ := hf 1 _ rfl
  obtain ⟨_, _, e2, t2⟩ := hf 2 _ rfl
  obtain ⟨_, _, e3, t3⟩ := hf 3 _ rfl
  cases e0; cases e1; cases e2; cases e3
  obtain ⟨z0, q0, _, f0⟩ := DataW.trod_int Try.underlying5 t0
  obtain ⟨z1, q1, _, f1⟩ := DataW.trod_int Try.underlying5 t1
  obtain ⟨z2, q2, _, f2⟩ := DataW.trod_int Try.underlying66 t2
  cases q0; cases q1; cases q2
  obtain ⟨A, ks, c, rfl, h1, h2, h3, h4⟩ := open_u8s t3
  exact ⟨⟨z0, z1, z2, ks⟩, A, c, rfl, ⟨wf_u8 f0, wf_u8 f1, wf_u16 f2, fun k hk => wf_u8 (h4 k hk)⟩, h3, Nat.le_trans h1 h2⟩
end
end Go.Proofs.Ytdphfhenjndkkaa
