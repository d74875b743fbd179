/-
  The walk over 'register.viewed'.
  The walk over 'register.Apply'.
  The walk over 'register.May'.
  The walk over chapter 15's 'SameRegister', and 'great'.
  Registers that are held in variables, and what chapter 15's statements call beside register itself.
  The walk over chapter 18's 'lives'.
  The walk over the statement BallotsNone.
  A slice within a struct that comes in.
  Registers and records that come in.
  Structs of numbers that come in, of any number of fields.
  Slices of structs that come in, whatever struct.
  Mail that comes in, and what a ballot begins with.
-/
import Derived.Test.YtbicefilfhcgoaaBallotsNoneK1
import Derived.Test.YtbicefilfhcgoaaBallotsNoneK2
import Derived.Test.YtbicefilfhcgoaaBallotsNoneK3
import Derived.Test.YtbicefilfhcgoaaBallotsNoneK4
set_option linter.unusedSimpArgs false
set_option linter.unusedVariables false
set_option maxRecDepth 100000
namespace Go.Proofs.Ytbicefilfhcgoaa
open Go Go.RowKit Go.Sq Go.Wd Go.Arch

theorem viewR_no {r : RegS} {x : RecS} (h : ¬ ((1 ≤ x.epoch ∧ r.prom ≤ x.epoch ∧ x.epoch ≤ 1048576 ∧ x.from_ = fromR r x) ∧ okLog (logR r x) x.epoch = true ∧ r.log.take r.com.toNat <+: logR r x)) : viewR r x = none := by
  unfold viewR; rw [if_neg h]
theorem viewR_yes {r : RegS} {x : RecS} (h : (1 ≤ x.epoch ∧ r.prom ≤ x.epoch ∧ x.epoch ≤ 1048576 ∧ x.from_ = fromR r x) ∧ okLog (logR r x) x.epoch = true ∧ r.log.take r.com.toNat <+: logR r x) :
    viewR r x = some ⟨x.epoch, x.epoch, logR r x, r.com⟩ := by
  unfold viewR; rw [if_pos h]

/-- What 'viewed' tells. -/
def ViewP (A : Option Addr) (r : RegS) (x : RecS) (w : World) (e : Ending) (w' : World) : Prop :=
  ∃ sl : SlcE, e = .returned (.tuple #[.slice sl.1 sl.2.1 sl.2.2, .bool (viewR r x).isSome]) ∧ (∀ a, viewR r x = some a → LogAt w' w'.heap.size sl a.log ∧ (sl.1 = A ∨ ∃ g, sl.1 = some ⟨g, 0, none⟩ ∧ w.heap.size ≤ g)) ∧ Below w.heap.size w w'
theorem ViewP.no {A : Option Addr} {r : RegS} {x : RecS} {w w' : World} {e : Ending} (h : viewR r x = none) (sl : SlcE) (he : e = .returned (.tuple #[.slice sl.1 sl.2.1 sl.2.2, .bool false])) (hb : Below w.heap.size w w') : ViewP A r x w e w' := by
  refine ⟨sl, by rw [h]; exact he, fun a ha => ?_, hb⟩
  rw [h] at ha
  cases ha

set_option maxHeartbeats 8000000 in
theorem viewed_any (r : RegS) (sl : SlcE) (x : RecV) (w : World) (hm : mayR r = true) (hl : LogAt w w.heap.size sl r.log) (hx : LogAt w w.heap.size x.es x.ents) (hx2 : x.ents.length ≤ 1000) :
    Calls Try.prog 46 #[.agg (rgv r sl).toArray, .agg (rcv x).toArray] w (ViewP sl.1 r x.s w) := by
  obtain ⟨⟨m1, m2, m3⟩, m4, m5, m6⟩ := (mayR_iff r).1 hm
  have m64 := ((okLog_iff _ _).1 m4).1
  clear m4 hm
  obtain ⟨p, v, lg, k⟩ := r
  obtain ⟨A, n, c⟩ := sl
  obtain rfl : n = lg.length := hl.1
  obtain ⟨kd, st, ep, vw, fr, ln, ⟨B, nb, d⟩, es, ⟨F, nf, cf⟩⟩ := x
  obtain rfl : nb = es.length := hx.1
  dsimp only at m1 m2 m3 m5 m6 m64 hx2
  obtain ⟨kn, rfl⟩ : ∃ kn : Nat, k = kn := ⟨k.toNat, by omega⟩
  have hlc : lg.length ≤ c := hl.2.1
  have hc2 : c ≤ 9223372036854775807 := hl.2.2.1
  have hkc : kn ≤ c := by omega
  have hw0 : Below w.heap.size w ((w.alloc (.cells (rgv ⟨p, v, lg, kn⟩ (A, lg.length, c)).toArray 24)).alloc (.cells (rcv ⟨kd, st, ep, vw, fr, ln, (B, es.length, d), es, (F, nf, cf)⟩).toArray 27)) := ((Below.refl _ _).alloc (Nat.le_refl _) _).alloc (by simp) _
  have B0 := (Blk.new w 24 (rgv ⟨p, v, lg, kn⟩ (A, lg.length, c))).alloc (.cells (rcv ⟨kd, st, ep, vw, fr, ln, (B, es.length, d), es, (F, nf, cf)⟩).toArray 27)
  have B1 := Blk.new1 w (.cells (rgv ⟨p, v, lg, kn⟩ (A, lg.length, c)).toArray 24) 27 (rcv ⟨kd, st, ep, vw, fr, ln, (B, es.length, d), es, (F, nf, cf)⟩)
  unfold rgv rcv at hw0 B0 B1
  have HH := Lib.hid (And.intro hw0 (And.intro B0 (And.intro B1 (And.intro (hl.keep hw0) (hx.keep hw0)))))
  clear hw0 B0 B1 hl hx
  unfold rgv rcv
  by_cases a1 : 1 ≤ ep
  case neg =>
    have HN := Lib.hid (viewR_no (r := ⟨p, v, lg, kn⟩) (x := ⟨kd, st, ep, vw, fr, ln, es⟩) (fun h => a1 h.1.1))
    go_enter Try.func46, Try.ntmps46
    go_wp2_with fail
    go_ret2
    exact ViewP.no HN.out (none, 0, 0) rfl HH.out.1
  by_cases a2 : p ≤ ep
  case neg =>
    have HN := Lib.hid (viewR_no (r := ⟨p, v, lg, kn⟩) (x := ⟨kd, st, ep, vw, fr, ln, es⟩) (fun h => a2 h.1.2.1))
    go_enter Try.func46, Try.ntmps46
    go_wp2_with fail
    go_ret2
    exact ViewP.no HN.out (none, 0, 0) rfl HH.out.1
  by_cases a3 : ep ≤ 1048576
  case neg =>
    have HN := Lib.hid (viewR_no (r := ⟨p, v, lg, kn⟩) (x := ⟨kd, st, ep, vw, fr, ln, es⟩) (fun h => a3 h.1.2.2.1))
    go_enter Try.func46, Try.ntmps46
    go_wp2_with fail
    go_ret2
    exact ViewP.no HN.out (none, 0, 0) rfl HH.out.1
  by_cases a4 : 0 ≤ fr
  case neg =>
    have HN := Lib.hid (viewR_no (r := ⟨p, v, lg, kn⟩) (x := ⟨kd, st, ep, vw, fr, ln, es⟩) (fun h => a4 (by have := h.1.2.2.2; dsimp only at this; omega)))
    go_enter Try.func46, Try.ntmps46
    go_wp2_with fail
    go_ret2
    exact ViewP.no HN.out (none, 0, 0) rfl HH.out.1
  have hfl : fromR ⟨p, v, lg, kn⟩ ⟨kd, st, ep, vw, fr, ln, es⟩ ≤ lg.length := by unfold fromR; split <;> simp
  by_cases a5 : fr ≤ (lg.length : Int)
  case neg =>
    have HN := Lib.hid (viewR_no (r := ⟨p, v, lg, kn⟩) (x := ⟨kd, st, ep, vw, fr, ln, es⟩) (fun h => a5 (by have := h.1.2.2.2; dsimp only at this; omega)))
    clear hfl
    go_enter Try.func46, Try.ntmps46
    go_wp2_with fail
    go_ret2
    exact ViewP.no HN.out (none, 0, 0) rfl HH.out.1
  obtain ⟨fn, rfl⟩ : ∃ fn : Nat, fr = fn := ⟨fr.toNat, by omega⟩
  have hF : (v < ep → fromR ⟨p, v, lg, kn⟩ ⟨kd, st, ep, vw, fn, ln, es⟩ = 0) ∧ (ep = v → fromR ⟨p, v, lg, kn⟩ ⟨kd, st, ep, vw, fn, ln, es⟩ = lg.length) := by
    unfold fromR
    exact ⟨fun h => by rw [if_neg (by show ¬ ep = v; omega)], fun h => by rw [if_pos h]⟩
  by_cases b1 : v < ep ∧ 0 < fn
  case pos =>
    have HN := Lib.hid (viewR_no (r := ⟨p, v, lg, kn⟩) (x := ⟨kd, st, ep, vw, fn, ln, es⟩) (fun h => by have h1 := h.1.2.2.2; rw [hF.1 b1.1] at h1; dsimp only at h1; omega))
    obtain ⟨b2, b3⟩ := b1
    have b4 : (0 : Int) < (fn : Int) := by omega
    clear hF hfl
    go_enter Try.func46, Try.ntmps46
    go_wp2_with fail
    go_ret2
    exact ViewP.no HN.out (none, 0, 0) rfl HH.out.1
  by_cases b5 : ep = v ∧ fn < lg.length
  case pos =>
    have HN := Lib.hid (viewR_no (r := ⟨p, v, lg, kn⟩) (x := ⟨kd, st, ep, vw, fn, ln, es⟩) (fun h => by have h1 := h.1.2.2.2; rw [hF.2 b5.1] at h1; dsimp only at h1; omega))
    obtain ⟨b2, b3⟩ := b5
    clear hF hfl b1
    subst b2
    have b4 : ¬ ep < ep := by omega
    go_enter Try.func46, Try.ntmps46
    go_wp2_with fail
    go_ret2
    exact ViewP.no HN.out (none, 0, 0) rfl HH.out.1
  have hfr : fromR ⟨p, v, lg, kn⟩ ⟨kd, st, ep, vw, fn, ln, es⟩ = fn := by
    by_cases h : v < ep
    · rw [hF.1 h]; have : ¬ 0 < fn := fun h' => b1 ⟨h, h'⟩; omega
    · have he : ep = v := by omega
      rw [hF.2 he]; have : ¬ fn < lg.length := fun h' => b5 ⟨he, h'⟩; omega
  have hL : logR ⟨p, v, lg, kn⟩ ⟨kd, st, ep, vw, fn, ln, es⟩ = lg.take fn ++ es := by unfold logR; rw [hfr]
  have hfn : fn ≤ lg.length := by omega
  have hV := fun (h1 : okLog (lg.take fn ++ es) ep = true) (h2 : lg.take kn <+: lg.take fn ++ es) => viewR_yes (r := ⟨p, v, lg, kn⟩) (x := ⟨kd, st, ep, vw, fn, ln, es⟩) ⟨⟨a1, a2, a3, by rw [hfr]⟩, by rw [hL]; exact h1, by rw [hL]; exact h2⟩
  have hN := fun (h : ¬ (okLog (lg.take fn ++ es) ep = true ∧ lg.take kn <+: lg.take fn ++ es)) => viewR_no (r := ⟨p, v, lg, kn⟩) (x := ⟨kd, st, ep, vw, fn, ln, es⟩) (fun hh => h (by have := hh.2; rw [hL] at this; exact this))
  rw [hL] at hV
  have HV := Lib.hid (And.intro hV hN)
  obtain ⟨⟨A1, n1, c1⟩, w2, hrun, hLA, hb2, hwh⟩ := app_full (lg.take fn) es A B d ((w.alloc (.cells #[.int .i64 p, .int .i64 v, .slice A lg.length c, .int .i64 kn] 24)).alloc (.cells #[.int .i64 kd, .int .i64 st, .int .i64 ep, .int .i64 vw, .int .i64 fn, .int .i64 ln, .slice B es.length d, .slice F nf cf] 27)).drew
    (HH.out.2.2.2.1.2.2.2.take fn) HH.out.2.2.2.2.2.2.2 (by rw [List.length_take]; omega)
  rw [List.length_take, Nat.min_eq_left hfn] at hrun
  have hln : (lg.take fn ++ es).length = fn + es.length := by rw [List.length_append, List.length_take, Nat.min_eq_left hfn]
  obtain rfl : n1 = fn + es.length := hLA.1.trans hln
  dsimp only at hrun
  have hwh' : A1 = A ∨ ∃ g, A1 = some ⟨g, 0, none⟩ ∧ w.heap.size ≤ g := hwh.imp id (fun ⟨g, h1, h2⟩ => ⟨g, h1, Nat.le_trans (by simp; omega) h2⟩)
  have HWH := Lib.hid hwh'
  have HL := Lib.hid (And.intro hLA hb2)
  clear hwh hwh' hLA hb2 hV hN hL hfr hF hfl
  have hfc : fn ≤ c := by omega
  have e1 : ¬ (v < ep ∧ (0 : Int) < (fn : Int)) := fun h => b1 ⟨h.1, by omega⟩
  have e2 : ¬ (ep = v ∧ (fn : Int) < (lg.length : Int)) := fun h => b5 ⟨h.1, by omega⟩
  have hcases : (v < ep ∧ ¬ (0 : Int) < (fn : Int) ∧ (ep == v) = false) ∨ (¬ v < ep ∧ (ep == v) = true ∧ ¬ (fn : Int) < (lg.length : Int)) := by
    by_cases h : v < ep
    · exact .inl ⟨h, fun h' => e1 ⟨h, h'⟩, by rw [beq_eq_false_iff_ne]; omega⟩
    · have he : ep = v := by omega
      exact .inr ⟨h, by rw [beq_iff_eq]; exact he, fun h' => e2 ⟨he, h'⟩⟩
  clear b1 b5 e1 e2
  rcases hcases with ⟨f1, f2, f3⟩ | ⟨f1, f2, f3⟩
  all_goals
    go_enter Try.func46, Try.ntmps46
    go_wp2_with fail
    refine wp_region_p ([(0, true), (1, true), (2, true), (3, true), (4, true), (5, true), (6, true), (7, true), (8, true), (9, false), (10, true)]) (fun w' => Below w.heap.size w w' ∧ Blk w' w.heap.size 24 [.int .i64 p, .int .i64 v, .slice A lg.length c, .int .i64 kn] ∧ Blk w' (w.heap.size + 1) 27 [.int .i64 kd, .int .i64 st, .int .i64 ep, .int .i64 vw, .int .i64 fn, .int .i64 ln, .slice B es.length d, .slice F nf cf]) (by kernel_rfl) rfl (by kernel_rfl) (by kernel_rfl) (⟨HH.out.1.drew, HH.out.2.1.drew, HH.out.2.2.1.drew⟩) rfl ?_
    intro KP RP TP hKP hTP hTP'
    simp only [pick, nth]
    go_wp2_with (first
      | (apply SeqP.skip; rfl; simp only [Act.put, List.setIfInBounds_toArray, List.set_cons_zero, List.set_cons_succ])
      | (apply SeqP.call; rfl; rfl; (intro w2 hw; have hw := hTP _ hw; ((have r2 := hw.2.1.cell 2; have x4 := hw.2.2.cell 4; have x6 := hw.2.2.cell 6; simp at r2 x4 x6)); go_simp; exact ⟨rfl, rfl⟩); (intro w2 hw; have hw := hTP _ hw; ((have r2 := hw.2.1.cell 2; have x4 := hw.2.2.cell 4; have x6 := hw.2.2.cell 6; simp at r2 x4 x6)); (first | fail)); simp only [Act.put, List.setIfInBounds_toArray, List.set_cons_zero, List.set_cons_succ])
      | (apply SeqP.pure; rfl; (intro w2 hw; have hw := hTP _ hw; ((have r2 := hw.2.1.cell 2; have x4 := hw.2.2.cell 4; have x6 := hw.2.2.cell 6; simp at r2 x4 x6)); go_simp; with_reducible rfl); simp only [Act.put, List.setIfInBounds_toArray, List.set_cons_zero, List.set_cons_succ])
      | (apply SeqP.split; rfl; rfl; all_goals (intro hc; simp only [hc]; try simp only [beq_iff_eq, decide_eq_true_eq, beq_eq_false_iff_ne, decide_eq_false_iff_not, bne_iff_ne, ne_eq, Bool.not_eq_true', Bool.not_eq_false', Int.not_le, Int.not_lt, bne_eq_false_iff_eq, Bool.or_eq_true, Bool.and_eq_true, Bool.or_eq_false_iff] at hc)))
    apply SeqP.eff
    · rfl
    intro KE hKE
    refine oper_app (by rfl) (by rfl) (by rfl) hrun ?_
    have hw2 := below_trans HH.out.1.drew HL.out.2 HH.out.1.size
    have C0 := HH.out.2.1.drew.keep HL.out.2
    have C1 := HH.out.2.2.1.drew.keep HL.out.2
    refine hKE _ _ (hTP' _ ⟨hw2, C0, C1⟩) ?_
    clear hKE KE
    go_wp2_with (first
      | (apply SeqP.skip; rfl; simp only [Act.put, List.setIfInBounds_toArray, List.set_cons_zero, List.set_cons_succ])
      | (apply SeqP.call; rfl; rfl; (intro w2 hw; have hw := hTP _ hw; (skip); go_simp; exact ⟨rfl, rfl⟩); (intro w2 hw; have hw := hTP _ hw; (skip); (first | fail)); simp only [Act.put, List.setIfInBounds_toArray, List.set_cons_zero, List.set_cons_succ])
      | (apply SeqP.pure; rfl; (intro w2 hw; have hw := hTP _ hw; (skip); go_simp; with_reducible rfl); simp only [Act.put, List.setIfInBounds_toArray, List.set_cons_zero, List.set_cons_succ])
      | (apply SeqP.split; rfl; rfl; all_goals (intro hc; simp only [hc]; try simp only [beq_iff_eq, decide_eq_true_eq, beq_eq_false_iff_ne, decide_eq_false_iff_not, bne_iff_ne, ne_eq, Bool.not_eq_true', Bool.not_eq_false', Int.not_le, Int.not_lt, bne_eq_false_iff_eq, Bool.or_eq_true, Bool.and_eq_true, Bool.or_eq_false_iff] at hc)))
    apply SeqP.nil
    refine hKP _ _ (hTP' _ (⟨hw2, C0, C1⟩)) ?_
    clear hKP hTP hTP'
    have hz2 := hw2.size
    have x2 := C1.cell 2
    simp at x2
    have hml : (lg.take fn ++ es).length ≤ 9223372036854775807 := by rw [List.length_append, List.length_take]; omega
    have hL2 := HL.out.1
    have hLl := (HH.out.2.2.2.1.keep (Below.refl _ _).drew).keep HL.out.2
    have HK := Lib.hid (And.intro hL2 hLl)
    clear hrun HL HH hL2 hLl
    have HLN := Lib.hid hln
    clear hln
    generalize lg.take fn ++ es = mm at hml HV HK HLN ⊢
    go_wp2_with fail
    have hW := whole_any mm A1 c1 ep w2 HK.out.1.2.2.2 hml
    rw [HLN.out] at hW
    refine hW.mono ?_
    clear hW
    rintro e w3 ⟨rfl, hb⟩
    have hw3 := below_trans hw2 hb hz2
    have D0 := C0.keep hb
    have HM := Lib.hid (And.intro (HK.out.1.keep hb) (HK.out.2.keep hb))
    have hz3 := hw3.size
    clear hb HK C0 C1 x2 hw2
    cases hO : okLog mm ep with
    | false =>
      have HN := Lib.hid (HV.out.2 (fun h => by rw [hO] at h; cases h.1))
      clear hO
      go_wp2_with fail
      go_ret2
      exact ViewP.no HN.out (A1, fn + es.length, c1) rfl hw3
    | true =>
      have hP := prefix_any (lg.take kn) mm A A1 c c1 w3 (HM.out.2.2.2.2.take kn) HM.out.1.2.2.2 (by rw [List.length_take]; omega) hml HM.out.1.2.1 HM.out.1.2.2.1
      rw [List.length_take, Nat.min_eq_left (by omega), HLN.out] at hP
      have HP := Lib.hid hP
      have d2 := D0.cell 2
      have d3 := D0.cell 3
      simp at d2 d3
      have HO := Lib.hid hO
      clear hP hO
      go_wp2_with fail
      refine HP.out.mono ?_
      rintro e w4 ⟨rfl, hb⟩
      have hw4 := below_trans hw3 hb hz3
      have hL4 := HM.out.1.keep hb
      clear hb HM HP
      by_cases hpre : lg.take kn <+: mm
      · have hY := HV.out.1 HO.out hpre
        have HY := Lib.hid (And.intro hY hL4)
        rw [decide_eq_true hpre]
        clear hY hL4 hpre
        go_wp2_with fail
        go_ret2
        refine ⟨(A1, fn + es.length, c1), ?_, ?_, hw4⟩
        · show _ = Ending.returned (.tuple #[_, .bool (viewR ⟨p, v, lg, kn⟩ ⟨kd, st, ep, vw, fn, ln, es⟩).isSome])
          rw [HY.out.1]
          rfl
        · intro a ha
          have ha' : viewR ⟨p, v, lg, kn⟩ ⟨kd, st, ep, vw, fn, ln, es⟩ = some a := ha
          rw [HY.out.1] at ha'
          cases ha'
          exact ⟨HY.out.2, HWH.out⟩
      · have HN := Lib.hid (HV.out.2 (fun h => hpre h.2))
        rw [decide_eq_false hpre]
        clear hpre
        go_wp2_with fail
        go_ret2
        exact ViewP.no HN.out (A1, fn + es.length, c1) rfl hw4
end Go.Proofs.Ytbicefilfhcgoaa

set_option linter.unusedSimpArgs false
set_option linter.unusedVariables false
set_option maxRecDepth 100000
namespace Go.Proofs.Ytbicefilfhcgoaa
open Go Go.RowKit Go.Sq Go.Wd Go.Arch

/-- What Apply tells: a register and whether; its log. -/
def AppP (r : RegS) (x : RecS) (w : World) (e : Ending) (w' : World) : Prop :=
  ∃ sl : SlcE, e = .returned (.tuple #[.agg (rgv (regR (applyR r x)).1 sl).toArray, .bool (regR (applyR r x)).2]) ∧ (LogAt w' w'.heap.size sl (regR (applyR r x)).1.log ∧ ∀ b o, sl.1 = some ⟨b, o, none⟩ → w.heap.size ≤ b) ∧ Below w.heap.size w w'
theorem AppP.no {r : RegS} {x : RecS} {w w' : World} {e : Ending} (h : applyR r x = none) (he : e = .returned (.tuple #[.agg (rgv reg0 (none, 0, 0)).toArray, .bool false])) (hb : Below w.heap.size w w') : AppP r x w e w' := by
  refine ⟨(none, 0, 0), ?_, ?_, hb⟩
  · rw [h]; exact he
  · rw [h]; exact ⟨LogAt.nil, fun b o h => by cases h⟩
theorem AppP.yes {r a : RegS} {x : RecS} {w w' : World} {e : Ending} (h : applyR r x = some a) (sl : SlcE) (he : e = .returned (.tuple #[.agg (rgv a sl).toArray, .bool true])) (hl : LogAt w' w'.heap.size sl a.log) (hwh : ∀ b o, sl.1 = some ⟨b, o, none⟩ → w.heap.size ≤ b) (hb : Below w.heap.size w w') : AppP r x w e w' := by
  refine ⟨sl, ?_, ?_, hb⟩
  · rw [h]; exact he
  · rw [h]; exact ⟨hl, hwh⟩
theorem apply_bad {r : RegS} {x : RecS} (h : mayR r = false) : applyR r x = none := by
  unfold applyR; rw [if_neg (by rw [h]; simp)]

theorem Row.wh {w : World} {B B' : Nat} {A : Option Addr} {n c : Nat} {l : List Ent} (h : Row w B (.slice A n c) l) (hB : B' ≤ B) : ∀ b o, A = some ⟨b, o, none⟩ → B' ≤ b := by
  intro b o ho
  rcases h.where_ with h' | ⟨g, h', hg⟩
  · rw [h'] at ho; cases ho
  · rw [h'] at ho; cases ho; omega
theorem rgv_one (r : RegS) (sl : SlcE) : ∀ v ∈ rgv r sl, v.oneCell' = true := by simp [rgv, Value.oneCell']

set_option maxHeartbeats 4000000 in
theorem apply_off (r : RegS) (sl : SlcE) (x : RecV) (w : World) (hm : mayR r = false) (hl : LogAt w w.heap.size sl r.log) :
    Calls Try.prog 16 #[.agg (rgv r sl).toArray, .agg (rcv x).toArray] w (AppP r x.s w) := by
  have HM := Lib.hid (apply_bad (x := x.s) hm)
  have hz : Below w.heap.size w (((w.alloc (.cells (rgv r sl).toArray 24)).alloc (.cells (rcv x).toArray 27)).alloc (.cells (rgv reg0 (none, 0, 0)).toArray 24)) := (((Below.refl _ _).alloc (Nat.le_refl _) _).alloc (by simp) _).alloc (by simp; omega) _
  have BZ : Blk (((w.alloc (.cells (rgv r sl).toArray 24)).alloc (.cells (rcv x).toArray 27)).alloc (.cells (rgv reg0 (none, 0, 0)).toArray 24)) (w.heap.size + 1 + 1) 24 (rgv reg0 (none, 0, 0)) := Blk.newAt _ _ _ (by simp)
  have B0 : Blk (((w.alloc (.cells (rgv r sl).toArray 24)).alloc (.cells (rcv x).toArray 27)).alloc (.cells (rgv reg0 (none, 0, 0)).toArray 24)) w.heap.size 24 (rgv r sl) := ((Blk.new w _ _).alloc _).alloc _
  have hc := check15_any r sl _ (hl.keep hz)
  rw [hm] at hc
  have HH := Lib.hid (And.intro hz (And.intro BZ (And.intro B0 hc)))
  clear hz BZ B0 hc hl hm
  go_enter Try.func16, Try.ntmps16
  go_wp2_with ((with_reducible refine at_list ?_); refine wpList_load_blk rfl 24 _ rfl _ rfl _ _ _ (HH.out.2.2.1) Try.underlying24 rfl rg_info ?_)
  refine HH.out.2.2.2.mono ?_
  rintro e w1 ⟨rfl, hb⟩
  have hw1 := below_trans HH.out.1 hb HH.out.1.size
  have C2 := HH.out.2.1.keep hb
  clear HH hb
  go_wp2_with ((with_reducible refine at_list ?_); (refine wpList_store_blk rfl 24 _ _ rfl _ (rgv reg0 (none, 0, 0)) rfl rfl _ _ (C2) rg_info rfl (rgv_one _ _) ?_; intro w8 B8 hb8 hk8))
  have hw8 := hw1.trans (hb8 _ (by omega))
  apply ret_of
  · exact results_blk_tmp rfl _ _ _ _ _ _ rfl (B8) Try.underlying24 rfl rg_info _ rfl
  · exact ⟨rfl, AppP.no HM.out rfl hw8⟩

theorem LogAt.apart {w w' : World} {B k : Nat} {sl : SlcE} {l : List Ent} (h : LogAt w B sl l) (hB : B ≤ w.heap.size) (hg : w.grownBy w' (some k)) (hne : ∀ b o, sl.1 = some ⟨b, o, none⟩ → b ≠ k) : LogAt w' w'.heap.size sl l := by
  refine ⟨h.1, h.2.1, h.2.2.1, fun hl => ?_⟩
  obtain ⟨b, off, ha, hb, hc⟩ := h.2.2.2 hl
  have hk := hg.block b (by omega) (fun e => hne b off ha (Option.some.inj e))
  refine ⟨b, off, ha, Nat.lt_of_lt_of_le hb (Nat.le_trans hB hg.size), fun i e he => ?_⟩
  obtain ⟨c0, c1, c2, c3, c4, c5⟩ := hc i e he
  have key : ∀ o v, w.cell? ⟨b, o, none⟩ = some v → w'.cell? ⟨b, o, none⟩ = some v := fun o v hv => (World.cell?_of_block (a := ⟨b, o, none⟩) hk).trans hv
  exact ⟨key _ _ c0, key _ _ c1, key _ _ c2, key _ _ c3, key _ _ c4, key _ _ c5⟩
theorem viewR_some {r a : RegS} {x : RecS} (h : viewR r x = some a) : a = ⟨x.epoch, x.epoch, logR r x, r.com⟩ := by
  unfold viewR at h
  split at h
  · cases h; rfl
  · cases h

theorem Row.blkFar {w w' : World} {B k : Nat} {v : Value} {l : List Ent} (h : Row w B v l) (hk : ∀ i T cs, i ≠ k → Blk w i T cs → Blk w' i T cs) (hB : k < B) : Row w' B v l := by
  refine ⟨h.1, ?_⟩
  rcases h.2 with h' | ⟨g, cap, cur, h1, h2, h3, rest⟩
  · exact .inl h'
  · refine .inr ⟨g, cap, cur, h1, h2, ?_, rest⟩
    have := hk g 44 cur.toList (by omega) (by unfold Blk; simpa using h3)
    unfold Blk at this
    simpa using this

/-- One continuation for all leaves, with two letters. -/
theorem merge2 {G : Prop} (Inv : Nat → SlcE → World → Prop) (K : Act → World → Prop) {F : Nat → SlcE → Act} (h1 : (∀ g s w', Inv g s w' → K (F g s) w') → G) (h2 : ∀ g s w', Inv g s w' → K (F g s) w') : G := h1 h2

/-- What a kind comes to, of a register that may be. -/
theorem apply_1 {r : RegS} {x : RecS} (h : mayR r = true) (k : x.kind = 1) : applyR r x = if r.prom < x.epoch ∧ x.epoch ≤ 1048576 then some { r with prom := x.epoch } else none := by
  unfold applyR; rw [if_pos h, if_pos k]
theorem apply_2 {r : RegS} {x : RecS} (h : mayR r = true) (k : x.kind = 2) : applyR r x = viewR r x := by
  unfold applyR; rw [if_pos h, if_neg (by rw [k]; decide), if_pos k]
theorem apply_3 {r : RegS} {x : RecS} (h : mayR r = true) (k : x.kind = 3) : applyR r x = if r.com < x.len ∧ x.len ≤ r.log.length then some { r with com := x.len } else none := by
  unfold applyR; rw [if_pos h, if_neg (by rw [k]; decide), if_neg (by rw [k]; decide), if_pos k]
theorem apply_4 {r : RegS} {x : RecS} (h : mayR r = true) (k : x.kind = 4) : applyR r x = if r.prom = 0 ∧ mayR ⟨x.epoch, x.view, x.ents, x.len⟩ = true then some ⟨x.epoch, x.view, x.ents, x.len⟩ else none := by
  unfold applyR; rw [if_pos h, if_neg (by rw [k]; decide), if_neg (by rw [k]; decide), if_neg (by rw [k]; decide), if_pos k]
theorem apply_else {r : RegS} {x : RecS} (h1 : x.kind ≠ 1) (h2 : x.kind ≠ 2) (h3 : x.kind ≠ 3) (h4 : x.kind ≠ 4) : applyR r x = none := by
  unfold applyR; rw [if_neg h1, if_neg h2, if_neg h3, if_neg h4]; split <;> rfl

set_option maxHeartbeats 8000000 in
theorem apply_on (r : RegS) (sl : SlcE) (x : RecV) (w : World) (hm : mayR r = true) (hl : LogAt w w.heap.size sl r.log) (hx : LogAt w w.heap.size x.es x.ents) (hx2 : x.ents.length ≤ 1000) :
    Calls Try.prog 16 #[.agg (rgv r sl).toArray, .agg (rcv x).toArray] w (AppP r x.s w) := by
  have m64 : r.log.length ≤ 64 := ((okLog_iff _ _).1 ((mayR_iff r).1 hm).2.1).1
  have hz : Below w.heap.size w (((w.alloc (.cells (rgv r sl).toArray 24)).alloc (.cells (rcv x).toArray 27)).alloc (.cells (rgv reg0 (none, 0, 0)).toArray 24)) := (((Below.refl _ _).alloc (Nat.le_refl _) _).alloc (by simp) _).alloc (by simp; omega) _
  have BZ : Blk (((w.alloc (.cells (rgv r sl).toArray 24)).alloc (.cells (rcv x).toArray 27)).alloc (.cells (rgv reg0 (none, 0, 0)).toArray 24)) (w.heap.size + 1 + 1) 24 (rgv reg0 (none, 0, 0)) := Blk.newAt _ _ _ (by simp)
  have B0 : Blk (((w.alloc (.cells (rgv r sl).toArray 24)).alloc (.cells (rcv x).toArray 27)).alloc (.cells (rgv reg0 (none, 0, 0)).toArray 24)) w.heap.size 24 (rgv r sl) := ((Blk.new w _ _).alloc _).alloc _
  have B1 : Blk (((w.alloc (.cells (rgv r sl).toArray 24)).alloc (.cells (rcv x).toArray 27)).alloc (.cells (rgv reg0 (none, 0, 0)).toArray 24)) (w.heap.size + 1) 27 (rcv x) := (Blk.newAt _ _ _ (by simp)).alloc _
  have hc := check15_any r sl _ (hl.keep hz)
  rw [hm] at hc
  have HM := Lib.hid hm
  have HLX := Lib.hid (And.intro hl hx)
  have HH := Lib.hid (And.intro hz (And.intro BZ (And.intro B0 (And.intro B1 hc))))
  clear hz BZ B0 B1 hc hl hm hx
  go_enter Try.func16, Try.ntmps16
  go_wp2_with ((with_reducible refine at_list ?_); refine wpList_load_blk rfl 24 _ rfl _ rfl _ _ _ (HH.out.2.2.1) Try.underlying24 rfl rg_info ?_)
  refine HH.out.2.2.2.2.mono ?_
  rintro e w1 ⟨rfl, hb⟩
  have hw1 := below_trans HH.out.1 hb HH.out.1.size
  have hzB := hw1.size
  have C2 := HH.out.2.1.keep hb
  have C0 := HH.out.2.2.1.keep hb
  have C1 := HH.out.2.2.2.1.keep hb
  have l2 := C2.lt
  clear HH hb
  go_wp2_with ((with_reducible refine at_list ?_); refine wpList_load_blk rfl 24 _ rfl _ rfl _ _ _ (C0) Try.underlying24 rfl rg_info ?_)
  refine (regclone_any r sl _ (HLX.out.1.keep hw1) (by omega)).mono ?_
  rintro e w2 ⟨sl2, rfl, hR, hb⟩
  have hw2 := below_trans hw1 hb hw1.size
  have D2 := C2.keep hb
  have D0 := C0.keep hb
  have D1 := C1.keep hb
  clear hb C0 C1 C2
  have HR := Lib.hid hR
  clear hR hw1
  go_wp2_with ((with_reducible refine at_list ?_); first | (refine wpList_store_own rfl 24 _ _ rfl _ (rgv r sl2) rfl rfl _ _ (D0) rg_info rfl (rgv_one _ _) ?_; intro w3 E0 g3) | (with_reducible refine cut_at 14 rfl ?_))
  refine Cut.go ?_
  have hz2 := hw2.size
  have hw3 := hw2.trans (below_grown g3 (Nat.le_refl _) hz2)
  have E1 := D1.grown g3 (fun e => by have := Option.some.inj e; omega)
  have E2 := D2.grown g3 (fun e => by have := Option.some.inj e; omega)
  have R3 := Row.far HR.out g3 (by omega)
  have hz3 := hw3.size
  have l3 := E2.lt
  clear g3 HR D0 D1 D2 hw2
  have HR := Lib.hid R3
  clear R3
  have x0 := E1.cell 0
  have x2 := E1.cell 2
  have x3 := E1.cell 3
  have x5 := E1.cell 5
  have r0 := E0.cell 0
  have r2 := E0.cell 2
  have r3 := E0.cell 3
  have fr := E0.frozen
  have lE1 := E1.lt
  have lE0 := E0.lt
  simp [rcv] at x0 x2 x3 x5
  simp [rgv] at r0 r2 r3
  by_cases k1 : x.kind = 1
  case pos =>
    rw [k1] at x0
    have hA := apply_1 (x := x.s) HM.out k1
    have F0 := E0.set 0 (.int .i64 x.epoch)
    have F0 : Blk _ _ _ (rgv { r with prom := x.epoch } sl2) := F0.of_eq rfl
    have F2 := E2.far (p := ⟨w.heap.size, 0, none⟩) (by simp; omega) (.int .i64 x.epoch)
    have g4 : w3.grownBy (w3.setCell ⟨w.heap.size, 0, none⟩ (.int .i64 x.epoch)) (some w.heap.size) := by (repeat (first | with_reducible apply only_drew | with_reducible refine only_setCell ?_ (by first | exact Or.inl rfl | (right; simp; done) | (right; simp; omega) | (right; omega)) _ | with_reducible refine only_alloc ?_ _ | with_reducible exact World.grownBy.refl _ _ | with_reducible assumption))
    have hw4 := hw3.trans (below_grown g4 (Nat.le_refl _) hz3)
    have R4 := Row.far HR.out g4 (by omega)
    have H4 := Lib.hid (And.intro hw4 R4)
    clear hw4 R4 g4
    have hA' : applyR r x.s = if r.prom < x.epoch ∧ x.epoch ≤ 1048576 then some { r with prom := x.epoch } else none := hA
    clear hA k1
    by_cases hc : r.prom < x.epoch ∧ x.epoch ≤ 1048576
    · rw [if_pos hc] at hA'
      have HA := Lib.hid hA'
      obtain ⟨c1, c2⟩ := hc
      clear hA'
      go_wp2_with ((with_reducible refine at_list ?_); first | refine wpList_load_blk rfl 24 _ rfl _ rfl _ _ _ (F0) Try.underlying24 rfl rg_info ?_ | (refine wpList_store_own rfl 24 _ _ rfl _ (rgv _ sl2) rfl rfl _ _ (F2) rg_info rfl (rgv_one _ _) ?_; intro w8 B8 g8))
      have hw8 := H4.out.1.trans (below_grown g8 (by omega) H4.out.1.size)
      have R8 := Row.far H4.out.2 g8 (by omega)
      apply ret_of
      · exact results_blk_tmp rfl _ _ _ _ _ _ rfl (B8) Try.underlying24 rfl rg_info _ rfl
      · exact ⟨rfl, AppP.yes HA.out sl2 rfl R8.logAt (R8.wh hzB) hw8⟩
    · rw [if_neg hc] at hA'
      have HA := Lib.hid hA'
      clear hA'
      have hcc : (¬ r.prom < x.epoch) ∨ (r.prom < x.epoch ∧ ¬ x.epoch ≤ 1048576) := by
        by_cases h : r.prom < x.epoch
        · exact .inr ⟨h, fun h' => hc ⟨h, h'⟩⟩
        · exact .inl h
      clear hc
      rcases hcc with c1 | ⟨c1, c2⟩
      all_goals
        go_wp2_with ((with_reducible refine at_list ?_); (refine wpList_store_own rfl 24 _ _ rfl _ (rgv reg0 (none, 0, 0)) rfl rfl _ _ (F2) rg_info rfl (rgv_one _ _) ?_; intro w8 B8 g8))
        have hw8 := H4.out.1.trans (below_grown g8 (by omega) H4.out.1.size)
        apply ret_of
        · exact results_blk_tmp rfl _ _ _ _ _ _ rfl (B8) Try.underlying24 rfl rg_info _ rfl
        · exact ⟨rfl, AppP.no HA.out rfl hw8⟩
  by_cases k2 : x.kind = 2
  case pos =>
    rw [k2] at x0
    have hA : applyR r x.s = viewR r x.s := apply_2 (x := x.s) HM.out k2
    have HA := Lib.hid hA
    clear hA k1 k2
    go_wp2_with ((with_reducible refine at_list ?_); first | refine wpList_load_blk rfl 24 _ rfl _ rfl _ _ _ (E0) Try.underlying24 rfl rg_info ?_ | refine wpList_load_blk rfl 27 _ rfl _ rfl _ _ _ (E1) Try.underlying27 rfl rc_info ?_)
    refine (viewed_any r sl2 x w3 HM.out HR.out.logAt (HLX.out.2.keep hw3) hx2).mono ?_
    rintro e w4 ⟨slv, rfl, hLv, hb⟩
    have hw4 := below_trans hw3 hb hz3
    have G0 := E0.keep hb
    have G1 := E1.keep hb
    have G2 := E2.keep hb
    have hz4 := hw4.size
    have HLv := Lib.hid hLv
    clear hb hLv E0 E1 E2 x0 x2 x3 x5 r0 r2 r3 fr lE1 lE0
    have r2 := G0.cell 2
    have fr := G0.frozen
    have lG0 := G0.lt
    have lG1 := G1.lt
    simp [rgv] at r2
    have J0 := G0.set 2 (.slice slv.1 slv.2.1 slv.2.2)
    have J1 := G1.far (p := ⟨w.heap.size, 2, none⟩) (by simp) (.slice slv.1 slv.2.1 slv.2.2)
    have J2 := G2.far (p := ⟨w.heap.size, 2, none⟩) (by simp; omega) (.slice slv.1 slv.2.1 slv.2.2)
    have hw5 : Below w.heap.size w (w4.setCell ⟨w.heap.size, 2, none⟩ (.slice slv.1 slv.2.1 slv.2.2)) := hw4.setCell (Nat.le_refl _) _
    have gg : w4.grownBy (w4.setCell ⟨w.heap.size, 2, none⟩ (.slice slv.1 slv.2.1 slv.2.2)) (some w.heap.size) := by (repeat (first | with_reducible apply only_drew | with_reducible refine only_setCell ?_ (by first | exact Or.inl rfl | (right; simp; done) | (right; simp; omega) | (right; omega)) _ | with_reducible refine only_alloc ?_ _ | with_reducible exact World.grownBy.refl _ _ | with_reducible assumption))
    have HJ := Lib.hid (And.intro J0 (And.intro J1 (And.intro J2 (And.intro hw5 gg))))
    clear J0 J1 J2 hw5 gg
    go_wp2_with fail
    clear r2 fr
    obtain ⟨J0, J1, J2, hw5, gg⟩ := HJ.out
    clear HJ
    generalize w4.setCell ⟨w.heap.size, 2, none⟩ (.slice slv.1 slv.2.1 slv.2.2) = w5 at J0 J1 J2 hw5 gg ⊢
    have hz5 := hw5.size
    refine wp_region_p ([(0, true), (1, true), (2, true), (3, true), (4, true), (5, false), (6, true), (7, false)]) (fun w' => Below w.heap.size w w' ∧ Blk w' (w.heap.size + 1) 27 (rcv x)) (by kernel_rfl) rfl (by kernel_rfl) (by kernel_rfl) (⟨hw5.drew, J1.drew⟩) rfl ?_
    intro KP RP TP hKP hTP hTP'
    simp only [pick, nth]
    go_wp2_with (first
      | (apply SeqP.skip; rfl; simp only [Act.put, List.setIfInBounds_toArray, List.set_cons_zero, List.set_cons_succ])
      | (apply SeqP.call; rfl; rfl; (intro w2 hw; have hw := hTP _ hw; ((have x2 := hw.2.cell 2; simp [rcv] at x2)); go_simp; exact ⟨rfl, rfl⟩); (intro w2 hw; have hw := hTP _ hw; ((have x2 := hw.2.cell 2; simp [rcv] at x2)); (first | fail)); simp only [Act.put, List.setIfInBounds_toArray, List.set_cons_zero, List.set_cons_succ])
      | (apply SeqP.pure; rfl; (intro w2 hw; have hw := hTP _ hw; ((have x2 := hw.2.cell 2; simp [rcv] at x2)); go_simp; with_reducible rfl); simp only [Act.put, List.setIfInBounds_toArray, List.set_cons_zero, List.set_cons_succ])
      | (apply SeqP.split; rfl; rfl; all_goals (intro hc; simp only [hc]; try simp only [beq_iff_eq, decide_eq_true_eq, beq_eq_false_iff_ne, decide_eq_false_iff_not, bne_iff_ne, ne_eq, Bool.not_eq_true', Bool.not_eq_false', Int.not_le, Int.not_lt, bne_eq_false_iff_eq, Bool.or_eq_true, Bool.and_eq_true, Bool.or_eq_false_iff] at hc)))
    have y0 := J0.drew.cell 0
    have y1 := J0.drew.cell 1
    have fr := J0.drew.frozen
    have lJ0 := J0.lt
    simp [rgv] at y0 y1
    apply SeqP.eff
    · rfl
    intro KE hKE
    go_wp2_with fail
    have hw6 : Below w.heap.size w (w5.drew.setCell ⟨w.heap.size, 0, none⟩ (.int .i64 x.epoch)) := hw5.drew.setCell (Nat.le_refl _) _
    have L1 := J1.drew.far (p := ⟨w.heap.size, 0, none⟩) (by simp) (.int .i64 x.epoch)
    refine hKE _ _ (hTP' _ ⟨hw6, L1⟩) ?_
    clear hKE KE
    go_wp2_with (first
      | (apply SeqP.skip; rfl; simp only [Act.put, List.setIfInBounds_toArray, List.set_cons_zero, List.set_cons_succ])
      | (apply SeqP.call; rfl; rfl; (intro w2 hw; have hw := hTP _ hw; ((have x2 := hw.2.cell 2; simp [rcv] at x2)); go_simp; exact ⟨rfl, rfl⟩); (intro w2 hw; have hw := hTP _ hw; ((have x2 := hw.2.cell 2; simp [rcv] at x2)); (first | fail)); simp only [Act.put, List.setIfInBounds_toArray, List.set_cons_zero, List.set_cons_succ])
      | (apply SeqP.pure; rfl; (intro w2 hw; have hw := hTP _ hw; ((have x2 := hw.2.cell 2; simp [rcv] at x2)); go_simp; with_reducible rfl); simp only [Act.put, List.setIfInBounds_toArray, List.set_cons_zero, List.set_cons_succ])
      | (apply SeqP.split; rfl; rfl; all_goals (intro hc; simp only [hc]; try simp only [beq_iff_eq, decide_eq_true_eq, beq_eq_false_iff_ne, decide_eq_false_iff_not, bne_iff_ne, ne_eq, Bool.not_eq_true', Bool.not_eq_false', Int.not_le, Int.not_lt, bne_eq_false_iff_eq, Bool.or_eq_true, Bool.and_eq_true, Bool.or_eq_false_iff] at hc)))
    have hJ6 := J0.set 0 (.int .i64 x.epoch)
    have z1 : (w5.setCell ⟨w.heap.size, 0, none⟩ (.int .i64 x.epoch)).cell? ⟨w.heap.size, 1, none⟩ = some (.int .i64 r.view) := hJ6.cell 1
    have fr6 := hJ6.frozen
    have y2 : w5.cell? ⟨w.heap.size, 1, none⟩ = some (.int .i64 r.view) := J0.cell 1
    have fr5 := J0.frozen
    apply SeqP.eff
    · rfl
    intro KE hKE
    clear y0 y1 fr
    go_wp2_with fail
    have hw7 : Below w.heap.size w ((w5.drew.setCell ⟨w.heap.size, 0, none⟩ (.int .i64 x.epoch)).setCell ⟨w.heap.size, 1, none⟩ (.int .i64 x.epoch)) := hw6.setCell (Nat.le_refl _) _
    have M1 := L1.far (p := ⟨w.heap.size, 1, none⟩) (by simp) (.int .i64 x.epoch)
    refine hKE _ _ (hTP' _ ⟨hw7, M1⟩) ?_
    clear hKE KE
    apply SeqP.nil
    refine hKP _ _ (hTP' _ (⟨hw7, M1⟩)) ?_
    clear hKP hTP hTP'
    have K0 := ((J0.set 0 (.int .i64 x.epoch)).set 1 (.int .i64 x.epoch)).drew
    have K2 := ((J2.far (p := ⟨w.heap.size, 0, none⟩) (by simp; omega) (.int .i64 x.epoch)).far (p := ⟨w.heap.size, 1, none⟩) (by simp; omega) (.int .i64 x.epoch)).drew
    have hw7' : Below w.heap.size w ((w5.setCell ⟨w.heap.size, 0, none⟩ (.int .i64 x.epoch)).setCell ⟨w.heap.size, 1, none⟩ (.int .i64 x.epoch)).drew := ((hw5.setCell (Nat.le_refl _) _).setCell (Nat.le_refl _) _).drew
    have g7 : w5.grownBy ((w5.setCell ⟨w.heap.size, 0, none⟩ (.int .i64 x.epoch)).setCell ⟨w.heap.size, 1, none⟩ (.int .i64 x.epoch)).drew (some w.heap.size) := by (repeat (first | with_reducible apply only_drew | with_reducible refine only_setCell ?_ (by first | exact Or.inl rfl | (right; simp; done) | (right; simp; omega) | (right; omega)) _ | with_reducible refine only_alloc ?_ _ | with_reducible exact World.grownBy.refl _ _ | with_reducible assumption))
    clear z1 fr6 y2 fr5 hJ6 J0 J1 J2 hw6 L1 M1 hw7
    have hw7 := hw7'
    clear hw7'
    generalize ((w5.setCell ⟨w.heap.size, 0, none⟩ (.int .i64 x.epoch)).setCell ⟨w.heap.size, 1, none⟩ (.int .i64 x.epoch)).drew = w7 at hw7 K0 K2 g7 ⊢
    have hz7 := hw7.size
    cases hv : viewR r x.s with
    | none =>
      have HN := Lib.hid (HA.out.trans hv)
      clear hv
      simp only [Option.isSome_none]
      go_wp2_with ((with_reducible refine at_list ?_); (refine wpList_store_own rfl 24 _ _ rfl _ (rgv reg0 (none, 0, 0)) rfl rfl _ _ (K2) rg_info rfl (rgv_one _ _) ?_; intro w8 B8 g8))
      have hw8 := hw7.trans (below_grown g8 (by omega) hz7)
      apply ret_of
      · exact results_blk_tmp rfl _ _ _ _ _ _ rfl (B8) Try.underlying24 rfl rg_info _ rfl
      · exact ⟨rfl, AppP.no HN.out rfl hw8⟩
    | some a =>
      have HY := Lib.hid (HA.out.trans hv)
      obtain ⟨hL4, hwh⟩ := HLv.out a hv
      have ha := viewR_some hv
      have hne : ∀ b o, slv.1 = some ⟨b, o, none⟩ → w.heap.size + 1 + 1 < b := by
        intro b o hb
        rcases hwh with h | ⟨g, h, hg⟩
        · rcases Row.where_ HR.out with h2 | ⟨g, h2, hg⟩
          · rw [h2] at h; rw [h] at hb; cases hb
          · rw [h2] at h; rw [h] at hb; cases hb; omega
        · rw [h] at hb; cases hb; omega
      have hL5 := hL4.apart (Nat.le_refl _) gg (fun b o h => by have := hne b o h; omega)
      have hL7 := hL5.apart (Nat.le_refl _) g7 (fun b o h => by have := hne b o h; omega)
      have HL7 := Lib.hid (And.intro hL7 hne)
      have K0 : Blk w7 w.heap.size 24 (rgv a slv) := K0.of_eq (by rw [ha]; rfl)
      clear hL4 hwh hL5 hL7 hne ha hv
      simp only [Option.isSome_some]
      go_wp2_with ((with_reducible refine at_list ?_); first | refine wpList_load_blk rfl 24 _ rfl _ rfl _ _ _ (K0) Try.underlying24 rfl rg_info ?_ | (refine wpList_store_own rfl 24 _ _ rfl _ (rgv _ slv) rfl rfl _ _ (K2) rg_info rfl (rgv_one _ _) ?_; intro w8 B8 g8))
      have hw8 := hw7.trans (below_grown g8 (by omega) hz7)
      have hL8 := HL7.out.1.apart (Nat.le_refl _) g8 (fun b o h => by have := HL7.out.2 b o h; omega)
      apply ret_of
      · exact results_blk_tmp rfl _ _ _ _ _ _ rfl (B8) Try.underlying24 rfl rg_info _ rfl
      · exact ⟨rfl, AppP.yes HY.out slv rfl hL8 (fun b o h => by have := HL7.out.2 b o h; omega) hw8⟩
  by_cases k3 : x.kind = 3
  case pos =>
    rw [k3] at x0
    have hA : applyR r x.s = if r.com < x.len ∧ x.len ≤ r.log.length then some { r with com := x.len } else none := apply_3 (x := x.s) HM.out k3
    have hln : sl2.2.1 = r.log.length := HR.out.logAt.1
    rw [hln] at r2
    have F0 := E0.set 3 (.int .i64 x.len)
    have F0 : Blk _ _ _ (rgv { r with com := x.len } sl2) := F0.of_eq rfl
    have F2 := E2.far (p := ⟨w.heap.size, 3, none⟩) (by simp; omega) (.int .i64 x.len)
    have g4 : w3.grownBy (w3.setCell ⟨w.heap.size, 3, none⟩ (.int .i64 x.len)) (some w.heap.size) := by (repeat (first | with_reducible apply only_drew | with_reducible refine only_setCell ?_ (by first | exact Or.inl rfl | (right; simp; done) | (right; simp; omega) | (right; omega)) _ | with_reducible refine only_alloc ?_ _ | with_reducible exact World.grownBy.refl _ _ | with_reducible assumption))
    have hw4 := hw3.trans (below_grown g4 (Nat.le_refl _) hz3)
    have R4 := Row.far HR.out g4 (by omega)
    have H4 := Lib.hid (And.intro hw4 R4)
    clear hw4 R4 g4 hln k1 k2 k3
    by_cases hc : r.com < x.len ∧ x.len ≤ (r.log.length : Int)
    · rw [if_pos hc] at hA
      have HA := Lib.hid hA
      obtain ⟨c1, c2⟩ := hc
      have d1 : decide (x.len ≤ (r.log.length : Int)) = true := decide_eq_true c2
      clear hA
      go_wp2_with ((with_reducible refine at_list ?_); first | refine wpList_load_blk rfl 24 _ rfl _ rfl _ _ _ (F0) Try.underlying24 rfl rg_info ?_ | (refine wpList_store_own rfl 24 _ _ rfl _ (rgv _ sl2) rfl rfl _ _ (F2) rg_info rfl (rgv_one _ _) ?_; intro w8 B8 g8))
      have hw8 := H4.out.1.trans (below_grown g8 (by omega) H4.out.1.size)
      have R8 := Row.far H4.out.2 g8 (by omega)
      apply ret_of
      · exact results_blk_tmp rfl _ _ _ _ _ _ rfl (B8) Try.underlying24 rfl rg_info _ rfl
      · exact ⟨rfl, AppP.yes HA.out sl2 rfl R8.logAt (R8.wh hzB) hw8⟩
    · rw [if_neg hc] at hA
      have HA := Lib.hid hA
      clear hA
      have hcc : (¬ r.com < x.len) ∨ (r.com < x.len ∧ ¬ x.len ≤ (r.log.length : Int)) := by
        by_cases h : r.com < x.len
        · exact .inr ⟨h, fun h' => hc ⟨h, h'⟩⟩
        · exact .inl h
      clear hc
      rcases hcc with c1 | ⟨c1, c2⟩
      case' inr => have d1 : decide (x.len ≤ (r.log.length : Int)) = false := decide_eq_false c2
      all_goals
        go_wp2_with ((with_reducible refine at_list ?_); (refine wpList_store_own rfl 24 _ _ rfl _ (rgv reg0 (none, 0, 0)) rfl rfl _ _ (F2) rg_info rfl (rgv_one _ _) ?_; intro w8 B8 g8))
        have hw8 := H4.out.1.trans (below_grown g8 (by omega) H4.out.1.size)
        apply ret_of
        · exact results_blk_tmp rfl _ _ _ _ _ _ rfl (B8) Try.underlying24 rfl rg_info _ rfl
        · exact ⟨rfl, AppP.no HA.out rfl hw8⟩
  by_cases k4 : x.kind = 4
  case pos =>
    rw [k4] at x0
    have hA : applyR r x.s = if r.prom = 0 ∧ mayR ⟨x.epoch, x.view, x.ents, x.len⟩ = true then some ⟨x.epoch, x.view, x.ents, x.len⟩ else none := apply_4 (x := x.s) HM.out k4
    have HA := Lib.hid hA
    have hes : x.es.2.1 = x.ents.length := HLX.out.2.1
    have HLE : Hid (∀ W', Below w.heap.size w W' → LogAt W' W'.heap.size (x.es.1, x.ents.length, x.es.2.2) x.ents) := Lib.hid (fun W' h => by have h2 := HLX.out.2.keep h; exact ⟨rfl, h2.2.1, h2.2.2.1, h2.2.2.2⟩)
    clear hA k1 k2 k3 k4 x2 x3 x5 r2 r3
    go_wp2_with fail
    refine wp_region_t (.quiet 0 (.quiet 1 (.quiet 2 (.quiet 3 (.quiet 4 (.quiet 5 (.quiet 7 (.quiet 8 (.two 6 10 (.quiet 9 (.one 10 (.one 11 .done))) (.one 6 (.quiet 9 (.one 11 .done)))))))))))) (fun w' => Below w.heap.size w w' ∧ Blk w' (w.heap.size + 1) 27 (rcv x)) (by kernel_rfl) (by kernel_rfl) (by kernel_rfl) (by kernel_rfl) (⟨hw3.drew, E1.drew⟩) rfl ?_
    intro KP RP TP hKP hTP hTP'
    simp only [Sch.fill, nth]
    apply merge2 (Inv := fun g s w' => Below w.heap.size w w' ∧ Blk w' w.heap.size 24 (rgv r sl2) ∧ Blk w' (w.heap.size + 1) 27 (rcv x) ∧ Blk w' (w.heap.size + 1 + 1) 24 (rgv reg0 (none, 0, 0)) ∧ Blk w' g 24 (rgv ⟨x.epoch, x.view, x.ents, x.len⟩ s) ∧ LogAt w' w'.heap.size s x.ents ∧ (∀ b o, s.1 = some ⟨b, o, none⟩ → w.heap.size + 1 + 1 < b) ∧ w.heap.size + 1 + 1 < g) (K := KP)
    · intro HK
      go_wp2_with (first
        | (apply SeqT.skip; rfl; simp only [Act.put, List.setIfInBounds_toArray, List.set_cons_zero, List.set_cons_succ])
        | (apply SeqT.pure; rfl; (intro w2 hw; have hw := hTP _ hw; (have z2 := hw.2.cell 2; have z3 := hw.2.cell 3; have z5 := hw.2.cell 5; have z6 := hw.2.cell 6; simp [rcv] at z2 z3 z5 z6); go_simp; with_reducible rfl); simp only [Act.put, List.setIfInBounds_toArray, List.set_cons_zero, List.set_cons_succ]))
      apply SeqT.two
      · apply EffT.go
        · rfl
        intro KE hKE
        go_wp2_with fail
        have hC := clone_any x.ents x.es.1 x.es.2.2 w3.drew (HLE.out _ hw3.drew) (by omega)
        refine hC.mono ?_
        clear hC
        rintro e w4 ⟨v, rfl, hRv, hb⟩
        obtain ⟨s, rfl, hs⟩ := hRv.log
        have hwhere := Row.where_ hRv
        have hw4 := below_trans hw3.drew hb hz3
        have F0 := E0.drew.keep hb
        have F1 := E1.drew.keep hb
        have F2 := E2.drew.keep hb
        have hz4 := hb.size
        have lF2 := F2.lt
        refine hKE _ _ (hTP' _ ⟨hw4, F1⟩) ?_
        clear hKE KE
        go_wp2_with (first
          | (apply SeqT.skip; rfl; simp only [Act.put, List.setIfInBounds_toArray, List.set_cons_zero, List.set_cons_succ])
          | (apply SeqT.pure; rfl; (intro w2 hw; have hw := hTP _ hw; (have z2 := hw.2.cell 2; have z3 := hw.2.cell 3; have z5 := hw.2.cell 5; have z6 := hw.2.cell 6; simp [rcv] at z2 z3 z5 z6); go_simp; with_reducible rfl); simp only [Act.put, List.setIfInBounds_toArray, List.set_cons_zero, List.set_cons_succ]))
        apply SeqT.one
        apply EffT.go
        · rfl
        intro KE hKE
        go_wp2_with fail
        have ZZ := Blk.new w4 24 (rgv reg0 (none, 0, 0))
        have hwA := hw4.alloc hw4.size (.cells (rgv reg0 (none, 0, 0)).toArray 24)
        have A0 := F0.alloc (.cells (rgv reg0 (none, 0, 0)).toArray 24)
        have A1 := F1.alloc (.cells (rgv reg0 (none, 0, 0)).toArray 24)
        have A2 := F2.alloc (.cells (rgv reg0 (none, 0, 0)).toArray 24)
        refine hKE _ _ (hTP' _ ⟨hwA, A1⟩) ?_
        clear hKE KE
        apply SeqT.one
        apply EffT.go
        · rfl
        intro KE hKE
        refine wp_store_blk 24 _ _ rfl _ (rgv ⟨x.epoch, x.view, x.ents, x.len⟩ s) rfl rfl _ _ ZZ rg_info rfl (rgv_one _ _) ?_
        intro w5 B5 hb5 hk5
        have hw5 := hwA.trans (hb5 _ (by omega))
        have P0 := hk5 _ _ _ (by omega) A0
        have P1 := hk5 _ _ _ (by omega) A1
        have P2 := hk5 _ _ _ (by omega) A2
        have hsl := hs.keep (((Below.refl _ _).alloc (Nat.le_refl _) _).trans (hb5 _ (Nat.le_refl _)))
        have hwh : ∀ b o, s.1 = some ⟨b, o, none⟩ → w.heap.size + 1 + 1 < b := by
          intro b o hb
          rcases hwhere with h | ⟨g, h, hg⟩
          · rw [h] at hb; cases hb
          · rw [h] at hb; have e := congrArg Addr.block (Option.some.inj hb); have hg' : w3.heap.size ≤ g := hg; simp only at e; omega
        have hgt : w.heap.size + 1 + 1 < w4.heap.size := by omega
        refine hKE _ _ (hTP' _ ⟨hw5, P1⟩) ?_
        clear hKE KE
        go_wp2_with (first
          | (apply SeqT.skip; rfl; simp only [Act.put, List.setIfInBounds_toArray, List.set_cons_zero, List.set_cons_succ])
          | (apply SeqT.pure; rfl; (intro w2 hw; have hw := hTP _ hw; (have z2 := hw.2.cell 2; have z3 := hw.2.cell 3; have z5 := hw.2.cell 5; have z6 := hw.2.cell 6; simp [rcv] at z2 z3 z5 z6); go_simp; with_reducible rfl); simp only [Act.put, List.setIfInBounds_toArray, List.set_cons_zero, List.set_cons_succ]))
        apply SeqT.done
        clear hb5 hk5 A0 A1 A2 ZZ
        generalize w4.heap.size = gg at B5 hgt ⊢
        exact HK gg s _ ⟨hw5, P0, P1, P2, B5, hsl, hwh, hgt⟩
      · have ZZ := Blk.new w3.drew 24 (rgv reg0 (none, 0, 0))
        have hwA := hw3.drew.alloc hz3 (.cells (rgv reg0 (none, 0, 0)).toArray 24)
        have A0 := E0.drew.alloc (.cells (rgv reg0 (none, 0, 0)).toArray 24)
        have A1 := E1.drew.alloc (.cells (rgv reg0 (none, 0, 0)).toArray 24)
        have A2 := E2.drew.alloc (.cells (rgv reg0 (none, 0, 0)).toArray 24)
        have hsz : (w3.drew.alloc (.cells (rgv reg0 (none, 0, 0)).toArray 24)).heap.size = w3.heap.size + 1 := by simp
        have hC := clone_any x.ents x.es.1 x.es.2.2 (w3.drew.alloc (.cells (rgv reg0 (none, 0, 0)).toArray 24)) (HLE.out _ hwA) (by omega)
        have HC := Lib.hid hC
        clear hC
        apply EffT.go
        · rfl
        intro KE hKE
        go_wp2_with fail
        refine hKE _ _ (hTP' _ ⟨hwA, A1⟩) ?_
        clear hKE KE
        apply SeqT.one
        apply EffT.go
        · rfl
        intro KE hKE
        go_wp2_with fail
        refine HC.out.mono ?_
        rintro e w4 ⟨v, rfl, hRv, hb⟩
        obtain ⟨s, rfl, hs⟩ := hRv.log
        have hwhere := Row.where_ hRv
        have hw4 := below_trans hwA hb hwA.size
        have F0 := A0.keep hb
        have F1 := A1.keep hb
        have F2 := A2.keep hb
        have Z1 := ZZ.keep hb
        refine hKE _ _ (hTP' _ ⟨hw4, F1⟩) ?_
        clear hKE KE hb A0 A1 A2 ZZ HC
        go_wp2_with (first
          | (apply SeqT.skip; rfl; simp only [Act.put, List.setIfInBounds_toArray, List.set_cons_zero, List.set_cons_succ])
          | (apply SeqT.pure; rfl; (intro w2 hw; have hw := hTP _ hw; (have z2 := hw.2.cell 2; have z3 := hw.2.cell 3; have z5 := hw.2.cell 5; have z6 := hw.2.cell 6; simp [rcv] at z2 z3 z5 z6); go_simp; with_reducible rfl); simp only [Act.put, List.setIfInBounds_toArray, List.set_cons_zero, List.set_cons_succ]))
        apply SeqT.one
        apply EffT.go
        · rfl
        intro KE hKE
        refine wp_store_blk 24 _ _ rfl _ (rgv ⟨x.epoch, x.view, x.ents, x.len⟩ s) rfl rfl _ _ Z1 rg_info rfl (rgv_one _ _) ?_
        intro w5 B5 hb5 hk5
        have hw5 := hw4.trans (hb5 _ hz3)
        have P0 := hk5 _ _ _ (by show w.heap.size ≠ w3.heap.size; omega) F0
        have P1 := hk5 _ _ _ (by show w.heap.size + 1 ≠ w3.heap.size; omega) F1
        have P2 := hk5 _ _ _ (by show w.heap.size + 1 + 1 ≠ w3.heap.size; omega) F2
        have hsl := (hRv.blkFar hk5 (by rw [hsz]; exact Nat.lt_succ_self _)).logAt
        have hwh : ∀ b o, s.1 = some ⟨b, o, none⟩ → w.heap.size + 1 + 1 < b := by
          intro b o hb
          rcases hwhere with h | ⟨g, h, hg⟩
          · rw [h] at hb; cases hb
          · rw [h] at hb; cases hb; rw [hsz] at hg; omega
        have hgt : w.heap.size + 1 + 1 < w3.heap.size := by omega
        refine hKE _ _ (hTP' _ ⟨hw5, P1⟩) ?_
        clear hKE KE
        go_wp2_with (first
          | (apply SeqT.skip; rfl; simp only [Act.put, List.setIfInBounds_toArray, List.set_cons_zero, List.set_cons_succ])
          | (apply SeqT.pure; rfl; (intro w2 hw; have hw := hTP _ hw; (have z2 := hw.2.cell 2; have z3 := hw.2.cell 3; have z5 := hw.2.cell 5; have z6 := hw.2.cell 6; simp [rcv] at z2 z3 z5 z6); go_simp; with_reducible rfl); simp only [Act.put, List.setIfInBounds_toArray, List.set_cons_zero, List.set_cons_succ]))
        apply SeqT.done
        clear hb5 hk5 F0 F1 F2 Z1
        have B5' : Blk w5 w3.heap.size 24 (rgv ⟨x.epoch, x.view, x.ents, x.len⟩ s) := B5
        clear B5
        generalize w3.heap.size = gg at B5' hgt ⊢
        exact HK gg s _ ⟨hw5, P0, P1, P2, B5', hsl, hwh, hgt⟩
    · intro g s w5 hI
      refine hKP _ _ (hTP' _ ⟨hI.1, hI.2.2.1⟩) ?_
      clear hKP hTP hTP' E0 E1 E2 x0 r0 fr lE1 lE0
      obtain ⟨hw5, P0, P1, P2, PG, hsl, hwh, hgt⟩ := hI
      have hz5 := hw5.size
      have r0 : w5.cell? ⟨w.heap.size, 0, none⟩ = some (.int .i64 r.prom) := P0.cell 0
      have lP0 := P0.lt
      have lPG := PG.lt
      by_cases hp : r.prom = 0
      · have hpb : (r.prom == 0) = true := by rw [beq_iff_eq]; exact hp
        have HP := Lib.hid hp
        clear hp
        go_wp2_with ((with_reducible refine at_list ?_); refine wpList_load_blk_g 24 _ rfl rfl _ rfl _ _ _ (PG) Try.underlying24 rfl rg_info ?_)
        refine (check15_any ⟨x.epoch, x.view, x.ents, x.len⟩ s w5 hsl).mono ?_
        rintro e w6 ⟨rfl, hb⟩
        have hw6 := below_trans hw5 hb hz5
        have Q0 := P0.keep hb
        have Q2 := P2.keep hb
        have QG := PG.keep hb
        have hs6 := hsl.keep hb
        have hz6 := hw6.size
        clear hb P0 P1 P2 PG r0 hsl
        cases hm2 : mayR ⟨x.epoch, x.view, x.ents, x.len⟩ with
        | false =>
          have hN : applyR r x.s = none := by rw [HA.out, if_neg (fun h => by rw [hm2] at h; cases h.2)]
          have HN := Lib.hid hN
          clear hN hm2
          go_wp2_with ((with_reducible refine at_list ?_); first | refine wpList_load_blk rfl 24 _ rfl _ rfl _ _ _ (QG) Try.underlying24 rfl rg_info ?_ | (refine wpList_store_own rfl 24 _ _ rfl _ (rgv _ s) rfl rfl _ _ (Q0) rg_info rfl (rgv_one _ _) ?_; intro w7 B7 g7) | (refine wpList_store_own rfl 24 _ _ rfl _ (rgv reg0 (none, 0, 0)) rfl rfl _ _ (Q2.grown g7 (fun e => by have := Option.some.inj e; omega)) rg_info rfl (rgv_one _ _) ?_; intro w8 B8 g8))
          have hw7 := hw6.trans (below_grown g7 (Nat.le_refl _) hz6)
          have hw8 := hw7.trans (below_grown g8 (by omega) hw7.size)
          apply ret_of
          · exact results_blk_tmp rfl _ _ _ _ _ _ rfl (B8) Try.underlying24 rfl rg_info _ rfl
          · exact ⟨rfl, AppP.no HN.out rfl hw8⟩
        | true =>
          have hN : applyR r x.s = some ⟨x.epoch, x.view, x.ents, x.len⟩ := by rw [HA.out, if_pos ⟨HP.out, hm2⟩]
          have HN := Lib.hid hN
          clear hN hm2
          go_wp2_with ((with_reducible refine at_list ?_); first | refine wpList_load_blk rfl 24 _ rfl _ rfl _ _ _ (QG) Try.underlying24 rfl rg_info ?_ | (refine wpList_store_own rfl 24 _ _ rfl _ (rgv _ s) rfl rfl _ _ (Q0) rg_info rfl (rgv_one _ _) ?_; intro w7 B7 g7) | refine wpList_load_blk rfl 24 _ rfl _ rfl _ _ _ (B7) Try.underlying24 rfl rg_info ?_ | (refine wpList_store_own rfl 24 _ _ rfl _ (rgv _ s) rfl rfl _ _ (Q2.grown g7 (fun e => by have := Option.some.inj e; omega)) rg_info rfl (rgv_one _ _) ?_; intro w8 B8 g8))
          have hw7 := hw6.trans (below_grown g7 (Nat.le_refl _) hz6)
          have hw8 := hw7.trans (below_grown g8 (by omega) hw7.size)
          have hs7 := hs6.apart (Nat.le_refl _) g7 (fun b o h => by have := hwh b o h; omega)
          have hs8 := hs7.apart (Nat.le_refl _) g8 (fun b o h => by have := hwh b o h; omega)
          apply ret_of
          · exact results_blk_tmp rfl _ _ _ _ _ _ rfl (B8) Try.underlying24 rfl rg_info _ rfl
          · exact ⟨rfl, AppP.yes HN.out s rfl hs8 (fun b o h => by have := hwh b o h; omega) hw8⟩
      · have hpb : (r.prom == 0) = false := by rw [beq_eq_false_iff_ne]; exact hp
        have hN : applyR r x.s = none := by rw [HA.out, if_neg (fun h => hp h.1)]
        have HN := Lib.hid hN
        clear hN hp
        go_wp2_with ((with_reducible refine at_list ?_); first | refine wpList_load_blk rfl 24 _ rfl _ rfl _ _ _ (PG) Try.underlying24 rfl rg_info ?_ | (refine wpList_store_own rfl 24 _ _ rfl _ (rgv _ s) rfl rfl _ _ (P0) rg_info rfl (rgv_one _ _) ?_; intro w7 B7 g7) | (refine wpList_store_own rfl 24 _ _ rfl _ (rgv reg0 (none, 0, 0)) rfl rfl _ _ (P2.grown g7 (fun e => by have := Option.some.inj e; omega)) rg_info rfl (rgv_one _ _) ?_; intro w8 B8 g8))
        have hw7 := hw5.trans (below_grown g7 (Nat.le_refl _) hz5)
        have hw8 := hw7.trans (below_grown g8 (by omega) hw7.size)
        apply ret_of
        · exact results_blk_tmp rfl _ _ _ _ _ _ rfl (B8) Try.underlying24 rfl rg_info _ rfl
        · exact ⟨rfl, AppP.no HN.out rfl hw8⟩
  have HN := Lib.hid (apply_else (r := r) (x := x.s) k1 k2 k3 k4)
  have b1 : (x.kind == 1) = false := by rw [beq_eq_false_iff_ne]; exact k1
  have b2 : (x.kind == 2) = false := by rw [beq_eq_false_iff_ne]; exact k2
  have b3 : (x.kind == 3) = false := by rw [beq_eq_false_iff_ne]; exact k3
  have b4 : (x.kind == 4) = false := by rw [beq_eq_false_iff_ne]; exact k4
  go_wp2_with ((with_reducible refine at_list ?_); (refine wpList_store_own rfl 24 _ _ rfl _ (rgv reg0 (none, 0, 0)) rfl rfl _ _ (E2) rg_info rfl (rgv_one _ _) ?_; intro w8 B8 g8))
  have hw8 := hw3.trans (below_grown g8 (by omega) hz3)
  apply ret_of
  · exact results_blk_tmp rfl _ _ _ _ _ _ rfl (B8) Try.underlying24 rfl rg_info _ rfl
  · exact ⟨rfl, AppP.no HN.out rfl hw8⟩

theorem apply_any (r : RegS) (sl : SlcE) (x : RecV) (w : World) (hl : LogAt w w.heap.size sl r.log) (hx : LogAt w w.heap.size x.es x.ents) (hx2 : x.ents.length ≤ 1000) :
    Calls Try.prog 16 #[.agg (rgv r sl).toArray, .agg (rcv x).toArray] w (AppP r x.s w) := by
  cases hm : mayR r with
  | false => exact apply_off r sl x w hm hl
  | true => exact apply_on r sl x w hm hl hx hx2
end Go.Proofs.Ytbicefilfhcgoaa

set_option linter.unusedSimpArgs false
set_option linter.unusedVariables false
set_option maxRecDepth 100000
namespace Go.Proofs.Ytbicefilfhcgoaa
open Go Go.RowKit Go.Sq Go.Wd Go.Arch

set_option maxHeartbeats 4000000 in
theorem may_any (r : RegS) (sl : SlcE) (x : RecV) (w : World) (hl : LogAt w w.heap.size sl r.log) (hx : LogAt w w.heap.size x.es x.ents) (hx2 : x.ents.length ≤ 1000) :
    Calls Try.prog 20 #[.agg (rgv r sl).toArray, .agg (rcv x).toArray] w fun e w' => e = .returned (.bool (applyR r x.s).isSome) ∧ Below w.heap.size w w' := by
  have hz : Below w.heap.size w ((w.alloc (.cells (rgv r sl).toArray 24)).alloc (.cells (rcv x).toArray 27)) := ((Below.refl _ _).alloc (Nat.le_refl _) _).alloc (by simp) _
  have B0 : Blk ((w.alloc (.cells (rgv r sl).toArray 24)).alloc (.cells (rcv x).toArray 27)) w.heap.size 24 (rgv r sl) := (Blk.new w _ _).alloc _
  have B1 : Blk ((w.alloc (.cells (rgv r sl).toArray 24)).alloc (.cells (rcv x).toArray 27)) (w.heap.size + 1) 27 (rcv x) := Blk.newAt _ _ _ (by simp)
  have HH := Lib.hid (And.intro hz (And.intro B0 (And.intro B1 (And.intro (hl.keep hz) (hx.keep hz)))))
  clear hz B0 B1 hl hx
  have hr : (regR (applyR r x.s)).2 = (applyR r x.s).isSome := by cases applyR r x.s <;> rfl
  have HR := Lib.hid hr
  clear hr
  go_enter Try.func20, Try.ntmps20
  go_wp2_with ((with_reducible refine at_list ?_); first | refine wpList_load_blk rfl 24 _ rfl _ rfl _ _ _ (HH.out.2.1) Try.underlying24 rfl rg_info ?_ | refine wpList_load_blk rfl 27 _ rfl _ rfl _ _ _ (HH.out.2.2.1) Try.underlying27 rfl rc_info ?_)
  refine (apply_any r sl x _ HH.out.2.2.2.1 HH.out.2.2.2.2 hx2).mono ?_
  rintro e w1 ⟨s, rfl, hL, hb⟩
  have hw1 := below_trans HH.out.1 hb HH.out.1.size
  have hz1 := hw1.size
  clear hb hL HH
  go_wp2_with ((with_reducible refine at_list ?_); (refine wpList_store_own rfl 24 _ _ rfl _ (rgv _ s) rfl rfl _ _ (Blk.new w1 24 (rgv reg0 (none, 0, 0))) rg_info rfl (rgv_one _ _) ?_; intro w8 B8 g8))
  have hw8 := (hw1.alloc hz1 (.cells (rgv reg0 (none, 0, 0)).toArray 24)).trans (below_grown g8 hz1 (by simp; omega))
  go_ret
  rw [HR.out]
  exact ⟨rfl, hw8⟩
end Go.Proofs.Ytbicefilfhcgoaa

set_option linter.unusedSimpArgs false
set_option linter.unusedVariables false
set_option maxRecDepth 100000
namespace Go.Proofs.Ytbicefilfhcgoaa
open Go Go.RowKit Go.Sq Go.Wd Go.Arch

set_option maxHeartbeats 4000000 in
theorem samereg_any (r q : RegS) (sl sq : SlcE) (w : World) (hl : LogAt w w.heap.size sl r.log) (hq : LogAt w w.heap.size sq q.log) (he : r = q) :
    Calls Try.prog 21 #[.agg (rgv r sl).toArray, .agg (rgv q sq).toArray] w fun e w' => e = .returned (.bool true) ∧ Below w.heap.size w w' := by
  subst he
  obtain ⟨A, n, c⟩ := sl
  obtain ⟨B, m, d⟩ := sq
  obtain rfl : n = r.log.length := hl.1
  obtain rfl : m = r.log.length := hq.1
  have hle : r.log.length ≤ 9223372036854775807 := Nat.le_trans hl.2.1 hl.2.2.1
  have hz : Below w.heap.size w ((w.alloc (.cells (rgv r (A, r.log.length, c)).toArray 24)).alloc (.cells (rgv r (B, r.log.length, d)).toArray 24)) := ((Below.refl _ _).alloc (Nat.le_refl _) _).alloc (by simp) _
  have hs := same_any r.log r.log A B c d _ (hl.keep hz).2.2.2 (hq.keep hz).2.2.2 hle hle
  have HH := Lib.hid (And.intro hz hs)
  clear hz hs hl hq
  unfold rgv at HH ⊢
  go_enter Try.func21, Try.ntmps21
  go_wp2_with fail
  refine HH.out.2.mono ?_
  rintro e w1 ⟨rfl, hb⟩
  have hw1 := below_trans HH.out.1 hb HH.out.1.size
  clear hb HH
  go_wp2_with fail
  go_ret
  exact ⟨by simp, hw1⟩
end Go.Proofs.Ytbicefilfhcgoaa

set_option linter.unusedSimpArgs false
set_option linter.unusedVariables false
set_option maxRecDepth 100000
namespace Go.Proofs.Ytbicefilfhcgoaa
open Go Go.RowKit Go.Sq Go.Wd Go.Arch

theorem wp_store_own {P : Program} {w : World} {o : Oper} {a : Act} {K : Act → World → Prop} {Q : Exit → Act → World → Prop} (ty : TypeId) (x y : Operand) (ho : o.op = .store ty x y)
    (g : Nat) (cs : List Value) (hx : a.eval x = .pointer (some ⟨g, 0, none⟩)) (hy : a.eval y = .agg cs.toArray) (t : TypeId) (old : List Value) (hg : Blk w g t old)
    (hi : (P.info? ty).map (·.size) = some cs.length) (hold : old.length = cs.length) (h1 : ∀ v ∈ cs, v.oneCell' = true)
    (h : ∀ w', Blk w' g t cs → w.grownBy w' (some g) → K (a.put o.dst undef) w') : o.wp P a w K Q :=
  wp_store_row ty x y ho g cs.toArray hx hy t old.toArray hg (by simpa using hi) (by simpa using hold)
    (Array.all_eq_true_iff_forall_mem.2 (fun v hv => h1 v (by simpa using hv)))
    (h _ (hg.row cs) (grown_setRow w g _))
/-- A log does not lie in a block that is shorter than an entry. -/
theorem LogAt.stored {w w' : World} {g : Nat} {T : TypeId} {cs : List Value} {sl : SlcE} {l : List Ent} (h : LogAt w w.heap.size sl l) (hZ : Blk w g T cs) (hc : cs.length ≤ 5) (hg : w.grownBy w' (some g)) : LogAt w' w'.heap.size sl l := by
  rcases Nat.eq_zero_or_pos l.length with h0 | h0
  · obtain rfl : l = [] := List.eq_nil_of_length_eq_zero h0
    exact ⟨h.1, h.2.1, h.2.2.1, Ents.nil⟩
  · refine h.apart (Nat.le_refl _) hg (fun b o ho hbg => ?_)
    subst hbg
    obtain ⟨b2, off, ha, hb, hE⟩ := h.2.2.2 h0
    rw [ho] at ha
    cases ha
    obtain ⟨_, _, _, _, _, h5⟩ := hE 0 _ (List.getElem?_eq_getElem h0)
    rw [hZ.cell, List.getElem?_eq_none (by omega)] at h5
    cases h5
/-- Blocks that hold registers. -/
def HeldR (w : World) (L : List (Nat × RegS × SlcE)) : Prop := ∀ q ∈ L, Blk w q.1 24 (rgv q.2.1 q.2.2) ∧ LogAt w w.heap.size q.2.2 q.2.1.log
theorem HeldR.nil {w : World} : HeldR w [] := by intro q hq; cases hq
theorem HeldR.add {w : World} {L : List (Nat × RegS × SlcE)} {g : Nat} {r : RegS} {s : SlcE} (h : HeldR w L) (hb : Blk w g 24 (rgv r s)) (hl : LogAt w w.heap.size s r.log) : HeldR w ((g, r, s) :: L) := by
  intro q hq
  rcases List.mem_cons.1 hq with rfl | hq
  · exact ⟨hb, hl⟩
  · exact h q hq
theorem HeldR.keep {w w' : World} {L : List (Nat × RegS × SlcE)} (h : HeldR w L) (hb : Below w.heap.size w w') : HeldR w' L := fun q hq => ⟨(h q hq).1.keep hb, (h q hq).2.keep hb⟩
theorem HeldR.drew {w : World} {L : List (Nat × RegS × SlcE)} (h : HeldR w L) : HeldR w.drew L := h.keep (Below.refl _ _).drew
theorem HeldR.blk {w : World} {L : List (Nat × RegS × SlcE)} (h : HeldR w L) (k : Nat) {q : Nat × RegS × SlcE} (hq : L[k]? = some q) : Blk w q.1 24 (rgv q.2.1 q.2.2) := (h q (List.mem_of_getElem? hq)).1
theorem HeldR.log {w : World} {L : List (Nat × RegS × SlcE)} (h : HeldR w L) (k : Nat) {q : Nat × RegS × SlcE} (hq : L[k]? = some q) : LogAt w w.heap.size q.2.2 q.2.1.log := (h q (List.mem_of_getElem? hq)).2

/-- A new variable that holds what was told. -/
theorem below_new {w w' : World} {o : Obj} (hg : (w.alloc o).grownBy w' (some w.heap.size)) : Below w.heap.size w w' := ((Below.refl _ _).alloc (Nat.le_refl _) o).trans (below_grown hg (Nat.le_refl _) (by simp))

/-- A continuation of a drawn region's step, with the world behind a letter. -/
theorem eff_abs {K' : Act → World → Prop} {T : World → Prop} {W : Act → World → Prop} {a : Act} {w1 : World} (hKE : ∀ a' w', T w' → W a' w' → K' a' w') (J : World → Prop) (hJ : J w1) (hT : ∀ w', J w' → T w') (h : ∀ w', J w' → W a w') : K' a w1 := hKE _ _ (hT _ hJ) (h _ hJ)
theorem merge3 {G : Prop} (Inv : Nat → Nat → SlcE → World → Prop) (K : Act → World → Prop) {F : Nat → Nat → SlcE → Act} (h1 : (∀ g k s w', Inv g k s w' → K (F g k s) w') → G) (h2 : ∀ g k s w', Inv g k s w' → K (F g k s) w') : G := h1 h2

theorem apply_to {r a : RegS} (sl : SlcE) (x : RecV) (w : World) (h : applyR r x.s = some a) (hl : LogAt w w.heap.size sl r.log) (hx : LogAt w w.heap.size x.es x.ents) (hx2 : x.ents.length ≤ 1000) :
    Calls Try.prog 16 #[.agg (rgv r sl).toArray, .agg (rcv x).toArray] w fun e w' => ∃ s : SlcE, e = .returned (.tuple #[.agg (rgv a s).toArray, .bool true]) ∧ LogAt w' w'.heap.size s a.log ∧ Below w.heap.size w w' := by
  refine (apply_any r sl x w hl hx hx2).mono ?_
  rintro e w1 ⟨s, he, hL, hb⟩
  rw [h] at he hL
  exact ⟨s, he, hL.1, hb⟩
/-- And it lies in memory of its own. -/
theorem apply_own {r a : RegS} (sl : SlcE) (x : RecV) (w : World) (h : applyR r x.s = some a) (hl : LogAt w w.heap.size sl r.log) (hx : LogAt w w.heap.size x.es x.ents) (hx2 : x.ents.length ≤ 1000) :
    Calls Try.prog 16 #[.agg (rgv r sl).toArray, .agg (rcv x).toArray] w fun e w' => ∃ s : SlcE, e = .returned (.tuple #[.agg (rgv a s).toArray, .bool true]) ∧ (LogAt w' w'.heap.size s a.log ∧ ∀ b o, s.1 = some ⟨b, o, none⟩ → w.heap.size ≤ b) ∧ Below w.heap.size w w' := by
  refine (apply_any r sl x w hl hx hx2).mono ?_
  rintro e w1 ⟨s, he, hL, hb⟩
  rw [h] at he hL
  exact ⟨s, he, hL, hb⟩
theorem may_to {r : RegS} (b : Bool) (sl : SlcE) (x : RecV) (w : World) (h : (applyR r x.s).isSome = b) (hl : LogAt w w.heap.size sl r.log) (hx : LogAt w w.heap.size x.es x.ents) (hx2 : x.ents.length ≤ 1000) :
    Calls Try.prog 20 #[.agg (rgv r sl).toArray, .agg (rcv x).toArray] w fun e w' => e = .returned (.bool b) ∧ Below w.heap.size w w' := by
  rw [← h]
  exact may_any r sl x w hl hx hx2

theorem entry15_any (id ep : Int) (w : World) :
    Calls Try.prog 25 #[.int .i64 id, .int .i64 ep] w fun e w' => e = .returned (.agg (vals (ep, id, 0, -1, 2, 1)).toArray) ∧ Below w.heap.size w w' := by
  have hw := Below.refl w.heap.size w
  unfold vals
  go_enter Try.func25, Try.ntmps25
  go_wp2_with fail
  apply ret_of
  · simp only [results, Try.results25]
    go_simp
    with_reducible rfl
  refine ⟨rfl, ?_⟩
  exact ⟨rfl, by (repeat (first | with_reducible apply Below.drew | with_reducible refine Below.setCell ?_ (by first | exact Nat.le_refl _ | (simp; done) | (simp; omega) | omega) _ | with_reducible refine Below.alloc ?_ (by first | exact Nat.le_refl _ | (simp; done) | (simp; omega) | omega) _ | with_reducible exact Below.refl _ _ | with_reducible assumption))⟩

theorem great15_any (x : RecV) (w : World) (hx : LogAt w w.heap.size x.es x.ents) :
    Calls Try.prog 14 #[.agg (rcv x).toArray] w fun e w' => e = .returned (.bool (decide (200 < x.ents.length))) ∧ Below w.heap.size w w' := by
  have hw := Below.refl w.heap.size w
  have hl := hx.1
  unfold rcv
  rw [hl]
  clear hl hx
  have hd : decide ((200 : Int) < (x.ents.length : Int)) = decide (200 < x.ents.length) := decide_eq_decide.2 (by omega)
  go_enter Try.func14, Try.ntmps14
  go_wp2_with fail
  go_ret
  exact ⟨ret_bool (by first | exact hd | rfl | simp), hw.alloc (Nat.le_refl _) _⟩

/-- One literal entry. -/
theorem lit_log (w : World) (e : Ent) : LogAt (w.alloc (.cells (vals e).toArray 44)) (w.alloc (.cells (vals e).toArray 44)).heap.size (some ⟨w.heap.size, 0, none⟩, 1, 1) [e] := by
  have hb := Blk.new w 44 (vals e)
  refine ⟨rfl, Nat.le_refl _, by simp, fun _ => ⟨_, 0, rfl, hb.lt, fun i x hx => ?_⟩⟩
  have hi := (List.getElem?_eq_some_iff.1 hx).1
  obtain rfl : i = 0 := by simpa using hi
  cases hx
  exact ⟨hb.cell 0, hb.cell 1, hb.cell 2, hb.cell 3, hb.cell 4, hb.cell 5⟩
end Go.Proofs.Ytbicefilfhcgoaa

set_option linter.unusedSimpArgs false
set_option linter.unusedVariables false
set_option maxRecDepth 100000
namespace Go.Proofs.Ytbicefilfhcgoaa
open Go Go.RowKit Go.Sq Go.Wd Go.Arch

def bL : BegS := ⟨0, 2, 1, 3, 7⟩
def ownL : RegS := ⟨2, 0, [], 0⟩
def SL : Slots := put7 no7 1 ownL
def pL : MailS := ⟨2, 0, 1, 0, 2, 0, 0, 0, 7, []⟩
def pLV : MailV := ⟨pL, no0, (0, 0, 0, 0, 0), (0, 0, 0)⟩
theorem okL : newOk bL ownL := by decide
theorem noL : ¬ newOk ⟨0, 3, 1, 3, 7⟩ ⟨3, 0, [], 0⟩ := by decide
theorem addL : addOk bL SL pL := by decide
theorem wonL : wonS bL SL = false := by decide
theorem chL : chosenS bL SL = ([], 0, 4) := by unfold chosenS; rw [wonL]; rfl
theorem twL : ¬ addOk bL (addS bL SL pL) pL := by decide
theorem wonL2 : wonS bL (addS bL SL pL) = true := by decide
theorem chL2 : chosenS bL (addS bL SL pL) = ([], 0, 0) := by
  unfold chosenS
  rw [wonL2]
  rfl
theorem askL : (askTo bL 3).map askV = [askV (askOf bL 0), askV (askOf bL 2)] := rfl

theorem abs_calls {P : Program} {f : Nat} {args : Array Value} {w : World} {Q : Ending → World → Prop} (S : World → Prop) (hS : S w) (h : ∀ w', S w' → Calls P f args w' Q) : Calls P f args w Q := h w hS

set_option maxHeartbeats 8000000 in
theorem lives18_any (w : World) : Calls Try.prog 29 #[] w fun e w' => e = .returned (.bool true) ∧ Below w.heap.size w w' := by
  have hn1 := new_any bL ownL no0 w LogAt.nil (by simp [ownL])
  have H1 := Lib.hid hn1
  clear hn1
  go_enter Try.func29, Try.ntmps29
  go_wp2_with fail
  refine H1.out.mono ?_
  clear H1
  rintro e w1 (⟨_, g, rfl, hgw, hB, hb⟩ | ⟨hno, _⟩)
  case inr => exact absurd okL hno
  have hB1 : BalAt w1 w.heap.size g bL SL := hB
  have H1 := Lib.hid (And.intro hB1 (And.intro hb hgw))
  clear hB hB1 hb hgw
  go_wp2_with fail
  have hlog1 : ∀ i, i < 7 → (regOf SL i).log.length ≤ 64 := fun i hi => by
    rcases cases7 hi with rfl | rfl | rfl | rfl | rfl | rfl | rfl <;> decide
  refine (chosen_any w.heap.size g bL SL w1 H1.out.1 (by decide) hlog1).mono ?_
  rintro e w2 ⟨v2, rfl, _, hb2⟩
  clear hlog1
  rw [chL]
  have hw2 := below_trans H1.out.2.1 hb2 H1.out.2.1.size
  have B2 := H1.out.1.keep hb2
  have H2 := Lib.hid (And.intro B2 (And.intro hw2 H1.out.2.2))
  clear B2 hw2 H1 hb2
  go_wp2_with fail
  obtain ⟨sl2, hbk2, _⟩ := H2.out.1
  refine (bmail_any g bL SL sl2 w2 hbk2 3 rfl (by decide) (by decide)).mono ?_
  rintro e w3 ⟨v3, rfl, hR3, hb3⟩
  clear hbk2
  rw [askL] at hR3
  have hw3 := below_trans H2.out.2.1 hb3 H2.out.2.1.size
  have B3 := H2.out.1.keep hb3
  have H3 := Lib.hid (And.intro B3 (And.intro hw3 (And.intro H2.out.2.2 (hR3.base H2.out.2.1.size))))
  clear B3 hw3 H2 hb3 hR3
  go_wp2_with fail
  have hp0 : Below w3.heap.size w3 (w3.alloc (.cells (mailv pLV).toArray 65)) := (Below.refl _ _).alloc (Nat.le_refl _) _
  have BP := Blk.new w3 65 (mailv pLV)
  have lg := H3.out.1.lt
  have hgp : g ≠ w3.heap.size := by omega
  have H4 := Lib.hid (show BalAt (w3.alloc (.cells (mailv pLV).toArray 65)) w.heap.size g bL SL ∧ Below w.heap.size w (w3.alloc (.cells (mailv pLV).toArray 65)) ∧ w.heap.size ≤ g ∧ Gr.Row mailE (w3.alloc (.cells (mailv pLV).toArray 65)) w.heap.size v3 [askV (askOf bL 0), askV (askOf bL 2)] ∧ Blk (w3.alloc (.cells (mailv pLV).toArray 65)) w3.heap.size 65 (mailv pLV) from
    ⟨H3.out.1.keep hp0, below_trans H3.out.2.1 hp0 H3.out.2.1.size, H3.out.2.2.1, H3.out.2.2.2.keep hp0, BP⟩)
  clear hp0 BP H3 lg
  generalize w3.heap.size = gp at *
  refine abs_calls (fun W => BalAt W w.heap.size g bL SL ∧ Below w.heap.size w W ∧ w.heap.size ≤ g ∧ Gr.Row mailE W w.heap.size v3 [askV (askOf bL 0), askV (askOf bL 2)] ∧ Blk W gp 65 (mailv pLV)) H4.out ?_
  intro w4 h4
  have H4 := Lib.hid h4
  clear h4
  try clear w3
  obtain ⟨sl4, hbk4, _⟩ := H4.out.1
  refine (won_any g bL SL sl4 w4 hbk4 (by decide)).mono ?_
  rintro e w5 ⟨rfl, hb5⟩
  clear hbk4
  rw [wonL]
  have H5 := Lib.hid (show BalAt w5 w.heap.size g bL SL ∧ Below w.heap.size w w5 ∧ w.heap.size ≤ g ∧ Gr.Row mailE w5 w.heap.size v3 [askV (askOf bL 0), askV (askOf bL 2)] ∧ Blk w5 gp 65 (mailv pLV) from
    ⟨H4.out.1.keep hb5, below_trans H4.out.2.1 hb5 H4.out.2.1.size, H4.out.2.2.1, H4.out.2.2.2.1.keep hb5, H4.out.2.2.2.2.keep hb5⟩)
  clear H4 hb5
  go_wp2_with fail
  refine wp_region_p ([(0, true), (1, true), (3, true), (4, true), (2, false), (5, false), (6, true), (7, true)]) (fun w' => Blk w' gp 65 (mailv pLV)) (by kernel_rfl) rfl (by kernel_rfl) (by kernel_rfl) (H5.out.2.2.2.2.drew) rfl ?_
  intro KP RP TP hKP hTP hTP'
  simp only [List.append_eq, List.cons_append, List.nil_append, pick, nth]
  go_wp2_with (first
    | (apply SeqP.skip; rfl; simp only [Act.put, List.setIfInBounds_toArray, List.set_cons_zero, List.set_cons_succ])
    | (apply SeqP.pure; rfl; (intro w2 hw; have hw := hTP _ hw; exact exec_load_blk 65 _ rfl _ rfl _ _ hw _ Try.underlying65 rfl mail_info); simp only [Act.put, List.setIfInBounds_toArray, List.set_cons_zero, List.set_cons_succ])
    | (apply SeqP.call; rfl; rfl; (intro w2 hw; have hw := hTP _ hw; (skip); go_simp; exact ⟨rfl, rfl⟩); (intro w2 hw; have hw := hTP _ hw; (skip); (first | fail)); simp only [Act.put, List.setIfInBounds_toArray, List.set_cons_zero, List.set_cons_succ])
    | (apply SeqP.pure; rfl; (intro w2 hw; have hw := hTP _ hw; (skip); go_simp; with_reducible rfl); simp only [Act.put, List.setIfInBounds_toArray, List.set_cons_zero, List.set_cons_succ])
    | (apply SeqP.split; rfl; rfl; all_goals (intro hc; simp only [hc]; try simp only [beq_iff_eq, decide_eq_true_eq, beq_eq_false_iff_ne, decide_eq_false_iff_not, bne_iff_ne, ne_eq, Bool.not_eq_true', Bool.not_eq_false', Int.not_le, Int.not_lt, bne_eq_false_iff_eq, Bool.or_eq_true, Bool.and_eq_true, Bool.or_eq_false_iff] at hc)))
  have hd5 : Below w5.heap.size w5 w5.drew := (Below.refl _ _).drew
  have H6 := Lib.hid (show BalAt w5.drew w.heap.size g bL SL ∧ Below w.heap.size w w5.drew ∧ w.heap.size ≤ g ∧ Gr.Row mailE w5.drew w.heap.size v3 [askV (askOf bL 0), askV (askOf bL 2)] ∧ Blk w5.drew gp 65 (mailv pLV) from
    ⟨H5.out.1.keep hd5, H5.out.2.1.drew, H5.out.2.2.1, H5.out.2.2.2.1.keep hd5, H5.out.2.2.2.2.drew⟩)
  clear H5 hd5
  generalize w5.drew = w6 at *
  apply SeqP.eff
  · rfl
  intro KE hKE
  go_wp2_with fail
  refine (add_any w.heap.size g bL SL pLV w6 H6.out.1 H6.out.2.1.size (by decide) LogAt.nil (by simp [pLV, pL])).mono ?_
  rintro e w7 ⟨rfl, hB, hK⟩
  rw [show decide (addOk bL SL pLV.m) = true from decide_eq_true addL]
  have hB' : BalAt w7 w.heap.size g bL (addS bL SL pL) := hB
  have H7 := Lib.hid (show BalAt w7 w.heap.size g bL (addS bL SL pL) ∧ Below w.heap.size w w7 ∧ w.heap.size ≤ g ∧ Gr.Row mailE w7 w.heap.size v3 [askV (askOf bL 0), askV (askOf bL 2)] ∧ Blk w7 gp 65 (mailv pLV) from by
    obtain ⟨h1, h2, h3, h4, h5⟩ := H6.out
    obtain ⟨sl, hbk, _⟩ := h1
    exact ⟨hB', h2.trans (hK.below (B := w.heap.size) (fun k e => by cases e; exact h3) (fun k e => by cases e) h2.size), h3, hK.own h4 (fun q e => by cases e; exact blk_not hbk (by decide)) (fun q e => by cases e), hK.blk h5 (fun e => hgp (Option.some.inj e).symm) (by simp)⟩)
  refine hKE _ _ (hTP' _ H7.out.2.2.2.2) ?_
  clear hKE KE H6 hB hB' hK
  go_wp2_with (first
    | (apply SeqP.skip; rfl; simp only [Act.put, List.setIfInBounds_toArray, List.set_cons_zero, List.set_cons_succ])
    | (apply SeqP.pure; rfl; (intro w2 hw; have hw := hTP _ hw; exact exec_load_blk 65 _ rfl _ rfl _ _ hw _ Try.underlying65 rfl mail_info); simp only [Act.put, List.setIfInBounds_toArray, List.set_cons_zero, List.set_cons_succ])
    | (apply SeqP.call; rfl; rfl; (intro w2 hw; have hw := hTP _ hw; (skip); go_simp; exact ⟨rfl, rfl⟩); (intro w2 hw; have hw := hTP _ hw; (skip); (first | fail)); simp only [Act.put, List.setIfInBounds_toArray, List.set_cons_zero, List.set_cons_succ])
    | (apply SeqP.pure; rfl; (intro w2 hw; have hw := hTP _ hw; (skip); go_simp; with_reducible rfl); simp only [Act.put, List.setIfInBounds_toArray, List.set_cons_zero, List.set_cons_succ])
    | (apply SeqP.split; rfl; rfl; all_goals (intro hc; simp only [hc]; try simp only [beq_iff_eq, decide_eq_true_eq, beq_eq_false_iff_ne, decide_eq_false_iff_not, bne_iff_ne, ne_eq, Bool.not_eq_true', Bool.not_eq_false', Int.not_le, Int.not_lt, bne_eq_false_iff_eq, Bool.or_eq_true, Bool.and_eq_true, Bool.or_eq_false_iff] at hc)))
  apply SeqP.eff
  · rfl
  intro KE hKE
  go_wp2_with fail
  refine (add_any w.heap.size g bL (addS bL SL pL) pLV w7 H7.out.1 H7.out.2.1.size (by decide) LogAt.nil (by simp [pLV, pL])).mono ?_
  rintro e w8 ⟨rfl, hB, hK⟩
  rw [show decide (addOk bL (addS bL SL pL) pLV.m) = false from decide_eq_false twL]
  have hB' : BalAt w8 w.heap.size g bL (addS bL SL pL) := by
    have h := hB
    rw [show addS bL (addS bL SL pL) pLV.m = addS bL SL pL from addS_no twL] at h
    exact h
  have H8 := Lib.hid (show BalAt w8 w.heap.size g bL (addS bL SL pL) ∧ Below w.heap.size w w8 ∧ w.heap.size ≤ g ∧ Gr.Row mailE w8 w.heap.size v3 [askV (askOf bL 0), askV (askOf bL 2)] ∧ Blk w8 gp 65 (mailv pLV) from by
    obtain ⟨h1, h2, h3, h4, h5⟩ := H7.out
    obtain ⟨sl, hbk, _⟩ := h1
    exact ⟨hB', h2.trans (hK.below (B := w.heap.size) (fun k e => by cases e; exact h3) (fun k e => by cases e) h2.size), h3, hK.own h4 (fun q e => by cases e; exact blk_not hbk (by decide)) (fun q e => by cases e), hK.blk h5 (fun e => hgp (Option.some.inj e).symm) (by simp)⟩)
  refine hKE _ _ (hTP' _ H8.out.2.2.2.2) ?_
  clear hKE KE H7 hB hB' hK
  go_wp2_with (first
    | (apply SeqP.skip; rfl; simp only [Act.put, List.setIfInBounds_toArray, List.set_cons_zero, List.set_cons_succ])
    | (apply SeqP.call; rfl; rfl; (intro w2 hw; have hw := hTP _ hw; (skip); go_simp; exact ⟨rfl, rfl⟩); (intro w2 hw; have hw := hTP _ hw; (skip); (first | fail)); simp only [Act.put, List.setIfInBounds_toArray, List.set_cons_zero, List.set_cons_succ])
    | (apply SeqP.pure; rfl; (intro w2 hw; have hw := hTP _ hw; (skip); go_simp; with_reducible rfl); simp only [Act.put, List.setIfInBounds_toArray, List.set_cons_zero, List.set_cons_succ])
    | (apply SeqP.split; rfl; rfl; all_goals (intro hc; simp only [hc]; try simp only [beq_iff_eq, decide_eq_true_eq, beq_eq_false_iff_ne, decide_eq_false_iff_not, bne_iff_ne, ne_eq, Bool.not_eq_true', Bool.not_eq_false', Int.not_le, Int.not_lt, bne_eq_false_iff_eq, Bool.or_eq_true, Bool.and_eq_true, Bool.or_eq_false_iff] at hc)))
  apply SeqP.nil
  refine hKP _ _ (hTP' _ (H8.out.2.2.2.2)) ?_
  clear hKP hTP hTP'
  go_wp2_with fail
  have hlog2 : ∀ i, i < 7 → (regOf (addS bL SL pL) i).log.length ≤ 64 := fun i hi => by
    rcases cases7 hi with rfl | rfl | rfl | rfl | rfl | rfl | rfl <;> decide
  refine (chosen_any w.heap.size g bL (addS bL SL pL) w8 H8.out.1 (by decide) hlog2).mono ?_
  rintro e w9 ⟨v9, rfl, hR9, hb9⟩
  clear hlog2
  rw [chL2] at hR9 ⊢
  obtain ⟨A9, c9, rfl, _, _, _⟩ := hR9.form
  have H9 := Lib.hid (show BalAt w9 w.heap.size g bL (addS bL SL pL) ∧ Below w.heap.size w w9 ∧ Gr.Row mailE w9 w.heap.size v3 [askV (askOf bL 0), askV (askOf bL 2)] from
    ⟨H8.out.1.keep hb9, below_trans H8.out.2.1 hb9 H8.out.2.1.size, H8.out.2.2.2.1.keep hb9⟩)
  clear H8 hb9 hR9
  have hnw := new_any ⟨0, 3, 1, 3, 7⟩ ⟨3, 0, [], 0⟩ no0 w9 LogAt.nil (by simp)
  have HNW := Lib.hid hnw
  clear hnw
  go_wp2_with fail
  refine HNW.out.mono ?_
  clear HNW
  rintro e wa (⟨hno, _⟩ | ⟨_, rfl, hba⟩)
  case inl => exact absurd hno noL
  have HA := Lib.hid (show BalAt wa w.heap.size g bL (addS bL SL pL) ∧ Below w.heap.size w wa ∧ Gr.Row mailE wa w.heap.size v3 [askV (askOf bL 0), askV (askOf bL 2)] from
    ⟨H9.out.1.keep hba, below_trans H9.out.2.1 hba H9.out.2.1.size, H9.out.2.2.keep hba⟩)
  clear H9 hba
  obtain ⟨A3, c3, rfl, _, _, hS3⟩ := Gr.Row.form HA.out.2.2
  obtain ⟨b3, o3, e0, rfl, he0, _, F0⟩ := Gr.Sl.at_ hS3 (k := 0) (by simp)
  obtain ⟨b4, o4, e1, hA4, he1, _, F1⟩ := Gr.Sl.at_ hS3 (k := 1) (by simp)
  cases hA4
  obtain rfl : askV (askOf bL 0) = e0 := Option.some.inj he0.out
  obtain rfl : askV (askOf bL 2) = e1 := Option.some.inj he1.out
  have y0 := F0 wa (Below.refl _ _) 2 (by show 2 < 18; omega)
  have y1 := F1 wa (Below.refl _ _) 2 (by show 2 < 18; omega)
  have y2 := F1 wa (Below.refl _ _) 0 (by show 0 < 18; omega)
  have y3 := F1 wa (Below.refl _ _) 4 (by show 4 < 18; omega)
  have y4 := F1 wa (Below.refl _ _) 8 (by show 8 < 18; omega)
  clear F0 F1 he0 he1 hS3
  have x0 : wa.cell? ⟨b3, o3 + 2, none⟩ = some (.int .i64 0) := by have := y0; simp only [show mailE.size = 18 from rfl, Nat.zero_mul, Nat.add_zero] at this; exact this
  have x1 : wa.cell? ⟨b3, o3 + 18 + 2, none⟩ = some (.int .i64 2) := y1
  have x2 : wa.cell? ⟨b3, o3 + 18, none⟩ = some (.int .i64 1) := y2
  have x3 : wa.cell? ⟨b3, o3 + 18 + 4, none⟩ = some (.int .i64 2) := y3
  have x4 : wa.cell? ⟨b3, o3 + 18 + 8, none⟩ = some (.int .i64 7) := y4
  clear y0 y1 y2 y3 y4
  go_wp2_with fail
  obtain ⟨sla, hbka, _⟩ := HA.out.1
  refine (won_any g bL (addS bL SL pL) sla wa hbka (by decide)).mono ?_
  rintro e wb ⟨rfl, hbb⟩
  rw [wonL2]
  have HB := Lib.hid (below_trans HA.out.2.1 hbb HA.out.2.1.size)
  clear hbka
  go_wp2_with fail
  go_ret
  exact ⟨rfl, HB.out⟩
end Go.Proofs.Ytbicefilfhcgoaa

set_option linter.unusedSimpArgs false
set_option linter.unusedVariables false
set_option maxRecDepth 100000
namespace Go.Proofs.Ytbicefilfhcgoaa
open Go Go.RowKit Go.Sq Go.Wd Go.Arch

set_option maxHeartbeats 8000000 in
theorem ballotsNone_walk (x : MailV) (w : World) (hl : LogAt w w.heap.size x.es x.m.ents) :
    Calls Try.prog 13 #[.agg (mailv x).toArray] w fun e w' => e = .returned (.bool true) ∧ Below w.heap.size w w' := by
  have hz : Below w.heap.size w (w.alloc (.cells (mailv x).toArray 65)) := (Below.refl _ _).alloc (Nat.le_refl _) _
  have BR := Blk.new w 65 (mailv x)
  have m9 : (w.alloc (.cells (mailv x).toArray 65)).cell? ⟨w.heap.size, 9, none⟩ = some (.slice x.es.1 x.es.2.1 x.es.2.2) := BR.cell 9
  have HH := Lib.hid (And.intro hz BR)
  clear hz BR hl
  by_cases h100 : 100 < x.es.2.1
  · have h1 : (100 : Int) < (x.es.2.1 : Int) := by omega
    go_enter Try.func13, Try.ntmps13
    go_wp2_with fail
    refine (lives18_any _).mono ?_
    rintro e w1 ⟨rfl, hb⟩
    have hw1 := below_trans HH.out.1 hb HH.out.1.size
    go_wp2_with fail
    go_ret
    exact ⟨rfl, hw1⟩
  have h1 : ¬ (100 : Int) < (x.es.2.1 : Int) := by omega
  go_enter Try.func13, Try.ntmps13
  go_wp2_with fail
  clear m9 h1 h100
  go_loopg [3, 4] 2 (fun q v i wr => ∃ j : Nat, q = 2 - j ∧ j ≤ 2 ∧ i = .int .i64 j ∧ NoBal wr v ∧ Below w.heap.size w wr ∧ Blk wr w.heap.size 65 (mailv x))
  case atStart => exact ⟨0, rfl, by omega, rfl, .inl rfl, HH.out.1, HH.out.2⟩
  case round =>
    clear HH
    obtain ⟨j, hq, hj, rfl, hN, hwr, hB⟩ := hrel
    have AA : Aside (gk = 2 - j) := hq
    clear hq
    obtain ⟨wo, rfl⟩ : ∃ wo, wo = wr := ⟨_, rfl⟩
    have H0 := Lib.hid (And.intro hN (And.intro hwr hB))
    clear hN hwr hB
    by_cases hlt : j < 2
    · have j1 : (j : Int) < 2 := by omega
      go_wp2_with fail
      refine (chosen_no H0.out.1).mono ?_
      rintro e w1 ⟨rfl, rfl⟩
      go_wp2_with ((with_reducible refine at_list ?_); first | refine wpList_load_blk rfl 65 _ rfl _ rfl _ _ _ (H0.out.2.2) Try.underlying65 rfl mail_info ?_)
      refine (add_nob H0.out.1 x).mono ?_
      rintro e w2 ⟨rfl, hb2⟩
      have H2 := Lib.hid (And.intro (H0.out.1.keep hb2) (And.intro (below_trans H0.out.2.1 hb2 H0.out.2.1.size) (H0.out.2.2.keep hb2)))
      clear H0 hb2
      go_wp2_with fail
      refine (won_no H2.out.1).mono ?_
      rintro e w3 ⟨rfl, hb3⟩
      have H3 := Lib.hid (And.intro (H2.out.1.keep hb3) (And.intro (below_trans H2.out.2.1 hb3 H2.out.2.1.size) (H2.out.2.2.keep hb3)))
      clear H2 hb3
      go_wp2_with fail
      refine (bmail_no H3.out.1).mono ?_
      rintro e w4 ⟨rfl, rfl⟩
      go_wp2_with fail
      refine (bsites_no H3.out.1).mono ?_
      rintro e w5 ⟨rfl, rfl⟩
      go_wp2_with fail
      refine (bepoch_no H3.out.1).mono ?_
      rintro e w6 ⟨rfl, rfl⟩
      go_wp2_with fail
      refine (bstamp_no H3.out.1).mono ?_
      rintro e w7 ⟨rfl, rfl⟩
      go_wp2_with fail
      have hal := H3.out.2.1.alloc H3.out.2.1.size (.cells (balv ⟨0, 0, 0, 0, 0⟩ no7 (fun _ => no0)).toArray 85)
      have hbn := Blk.new w7 85 (balv ⟨0, 0, 0, 0, 0⟩ no7 (fun _ => no0))
      have hbm := H3.out.2.2.alloc (.cells (balv ⟨0, 0, 0, 0, 0⟩ no7 (fun _ => no0)).toArray 85)
      have HF := Lib.hid (And.intro hal (And.intro hbn hbm))
      clear hal hbn hbm H3
      go_roundg (2 - (j + 1))
      case measure => have hkk := AA.out; omega
      case rel => exact ⟨j + 1, rfl, by omega, by go_num, .inr ⟨w7.heap.size, rfl, HF.out.2.1.cell 3⟩, HF.out.1, HF.out.2.2⟩
    · have j1 : ¬ (j : Int) < 2 := by omega
      go_wp2_with fail
      refine (lives18_any _).mono ?_
      rintro e w1 ⟨rfl, hb⟩
      have hw1 := below_trans H0.out.2.1 hb H0.out.2.1.size
      go_wp2_with fail
      go_ret
      exact ⟨rfl, hw1⟩
end Go.Proofs.Ytbicefilfhcgoaa

set_option linter.unusedSimpArgs false
set_option linter.unusedVariables false
set_option maxRecDepth 100000
namespace Go.Sq
open Go Go.ChangeShapes Go.WideShapes Go.RowKit Go.Deep
section
variable {H : Type} {enc : TypeId × Value → H} {P : Program} {w : World} {base : Nat} {spare : Nat → Bool} {held : Bool}
theorem open_rows_in {k : Nat} {t e : TypeId} {C : Nat} {v : Value} {y : DataW H × List MemPlace} (ht : P.underlying t = some (.slice e))
    (hC : P.cellsOf e = C) (hpos : 0 < C) (h : DataW.trod enc P w base spare held k t [v] = some y) :
    ∃ (a : Option Addr) (len cap : Nat), v = .slice a len cap ∧ len ≤ cap ∧ cap ≤ maxLen ∧ (0 < len → ∃ b off, a = some ⟨b, off, none⟩ ∧ b < w.heap.size ∧ ∀ i, i < len →
      ∃ (cs : List Value) (n : Nat) (y : DataW H × List MemPlace), cs.length = C ∧ (∀ k, k < C → w.cell? ⟨b, off + i * C + k, none⟩ = cs[k]?) ∧ DataW.trod enc P w base spare held n e cs = some y) := by
  rcases open_slice ht h with ⟨hcs, _⟩ | ⟨a, l, c, m, n, D, Pl, hcs, _, hl, hm, hmm, _, hi⟩
  · cases hcs
    exact ⟨none, 0, 0, rfl, Nat.le_refl _, by simp [maxLen], fun h => absurd h (by omega)⟩
  · cases hcs
    refine ⟨some a, l, c, rfl, hl, hm, fun hlen => ?_⟩
    obtain ⟨b, off, rfl, hbl⟩ : ∃ b off, a = ⟨b, off, none⟩ ∧ b < w.heap.size := by
      obtain ⟨cs', hc, _⟩ := hi 0 (by rw [hmm]; split <;> omega)
      rw [hC] at hc
      obtain ⟨_, hcl, hat⟩ := World.cells?_some hc
      have h0 := hat 0 hpos
      rw [List.getElem?_eq_getElem (show 0 < cs'.length by omega)] at h0
      have hsp : a.spot = none := by simpa [Addr.add] using World.cell?_spot h0
      have hbl := World.block_lt_of_cell? _ _ h0
      rw [add_block, add_block] at hbl
      obtain ⟨b, off, spot⟩ := a
      obtain rfl : spot = none := hsp
      exact ⟨b, off, rfl, hbl⟩
    refine ⟨b, off, rfl, hbl, fun i hil => ?_⟩
    obtain ⟨cs', hc, ht'⟩ := hi i (by rw [hmm]; split <;> omega)
    rw [hC] at hc
    obtain ⟨_, hcl, hat⟩ := World.cells?_some hc
    refine ⟨cs', n, _, hcl, fun k hk => ?_, ht'⟩
    have h3 := hat k hk
    rw [add_none, add_none] at h3
    exact h3
end
end Go.Sq

set_option linter.unusedSimpArgs false
set_option linter.unusedVariables false
set_option maxRecDepth 100000
namespace Go.Proofs.Ytbicefilfhcgoaa
open Go Go.ChangeShapes Go.WideShapes Go.RowKit Go.Deep Go.Sq Go.Wd Go.Arch
section
variable {H : Type} {enc : TypeId × Value → H} {w : World} {base : Nat} {spare : Nat → Bool} {held : Bool}

theorem open_log {k : Nat} {v : Value} {y : DataW H × List MemPlace} (h : DataW.trod enc Try.prog w base spare held k 22 [v] = some y) :
    ∃ (sl : SlcE) (es : List Ent), v = .slice sl.1 sl.2.1 sl.2.2 ∧ LogAt w w.heap.size sl es ∧ ∀ e ∈ es, wfEnt e := by
  obtain ⟨A, len, cap, rfl, h1, h2, h3⟩ := open_rows_in Try.underlying22 (C := 6) (by kernel_rfl) (by omega) h
  have h2' : cap ≤ 9223372036854775807 := by simp only [maxLen] at h2; omega
  rcases Nat.eq_zero_or_pos len with h0 | h0
  · subst h0
    exact ⟨(A, 0, cap), [], rfl, ⟨rfl, h1, h2', Ents.nil⟩, by simp⟩
  · obtain ⟨b, off, rfl, hb, hrow⟩ := h3 h0
    obtain ⟨l, hl, hp⟩ := list_of (p := fun i e => EntAt w b (off + i * 6) e ∧ wfEnt e) len (fun i hi => by
      obtain ⟨cs, n, y, hcl, hcell, ht⟩ := hrow i hi
      obtain ⟨e, rfl, hw⟩ := open_ent ht
      exact ⟨e, ⟨hcell 0 (by omega), hcell 1 (by omega), hcell 2 (by omega), hcell 3 (by omega), hcell 4 (by omega), hcell 5 (by omega)⟩, hw⟩)
    subst hl
    refine ⟨(some ⟨b, off, none⟩, l.length, cap), l, rfl, ⟨rfl, h1, h2', fun _ => ⟨b, off, rfl, hb, fun i e he => (hp i e he).1⟩⟩, fun e he => ?_⟩
    obtain ⟨i, hi⟩ := List.getElem?_of_mem he
    exact (hp i e hi).2
theorem open_any_slice {k : Nat} {t e : TypeId} {v : Value} {y : DataW H × List MemPlace} (ht : Try.prog.underlying t = some (.slice e)) (h : DataW.trod enc Try.prog w base spare held k t [v] = some y) : ∃ sl : SlcE, v = .slice sl.1 sl.2.1 sl.2.2 := by
  rcases open_slice ht h with ⟨hcs, _⟩ | ⟨a, l, c, m, n, D, Pl, hcs, _⟩
  · cases hcs
    exact ⟨(none, 0, 0), rfl⟩
  · cases hcs
    exact ⟨(some a, l, c), rfl⟩
theorem rec_fields {fs : Array Field} (hs : Try.prog.underlying 27 = some (.struct fs)) {n : Nat} {cs : List Value} (hl : cs.length = fs.size)
    (hf : ∀ (j : Nat) (f : Field), fs[j]? = some f → ∃ (c : Value) (y : DataW H × List MemPlace), cs[j]? = some c ∧ DataW.trod enc Try.prog w base spare held n f.type [c] = some y) :
    ∃ x : RecV, cs = rcv x ∧ LogAt w w.heap.size x.es x.ents ∧ ∀ e ∈ x.ents, wfEnt e := by
  rw [Try.underlying27] at hs
  cases hs
  obtain ⟨c0, c1, c2, c3, c4, c5, c6, c7, rfl⟩ := len8 hl
  obtain ⟨_, _, e0, t0⟩ := hf 0 _ rfl
  obtain ⟨_, _, e1, t1⟩ := hf 1 _ rfl
  obtain ⟨_, _, e2, t2⟩ := hf 2 _ rfl
  obtain ⟨_, _, e3, t3⟩ := hf 3 _ rfl
  obtain ⟨_, _, e4, t4⟩ := hf 4 _ rfl
  obtain ⟨_, _, e5, t5⟩ := hf 5 _ rfl
  obtain ⟨_, _, e6, t6⟩ := hf 6 _ rfl
  obtain ⟨_, _, e7, t7⟩ := hf 7 _ rfl
  cases e0; cases e1; cases e2; cases e3; cases e4; cases e5; cases e6; cases e7
  obtain ⟨z0, q0, _, _⟩ := DataW.trod_int Try.underlying3 t0
  obtain ⟨z1, q1, _, _⟩ := DataW.trod_int Try.underlying3 t1
  obtain ⟨z2, q2, _, _⟩ := DataW.trod_int Try.underlying3 t2
  obtain ⟨z3, q3, _, _⟩ := DataW.trod_int Try.underlying3 t3
  obtain ⟨z4, q4, _, _⟩ := DataW.trod_int Try.underlying3 t4
  obtain ⟨z5, q5, _, _⟩ := DataW.trod_int Try.underlying3 t5
  cases q0; cases q1; cases q2; cases q3; cases q4; cases q5
  obtain ⟨sl, es, rfl, hE, hw⟩ := open_log t6
  obtain ⟨fs, rfl⟩ := open_any_slice Try.underlying25 t7
  exact ⟨⟨z0, z1, z2, z3, z4, z5, sl, es, fs⟩, rfl, hE, hw⟩
theorem reg_fields {fs : Array Field} (hs : Try.prog.underlying 24 = some (.struct fs)) {n : Nat} {cs : List Value} (hl : cs.length = fs.size)
    (hf : ∀ (j : Nat) (f : Field), fs[j]? = some f → ∃ (c : Value) (y : DataW H × List MemPlace), cs[j]? = some c ∧ DataW.trod enc Try.prog w base spare held n f.type [c] = some y) :
    ∃ (r : RegS) (sl : SlcE), cs = rgv r sl ∧ LogAt w w.heap.size sl r.log ∧ ∀ e ∈ r.log, wfEnt e := by
  rw [Try.underlying24] at hs
  cases hs
  obtain ⟨c0, c1, c2, c3, rfl⟩ := len4 hl
  obtain ⟨_, _, e0, t0⟩ := hf 0 _ rfl
  obtain ⟨_, _, e1, t1⟩ := hf 1 _ rfl
  obtain ⟨_, _, e2, t2⟩ := hf 2 _ rfl
  obtain ⟨_, _, e3, t3⟩ := hf 3 _ rfl
  cases e0; cases e1; cases e2; cases e3
  obtain ⟨z0, q0, _, _⟩ := DataW.trod_int Try.underlying3 t0
  obtain ⟨z1, q1, _, _⟩ := DataW.trod_int Try.underlying3 t1
  obtain ⟨z3, q3, _, _⟩ := DataW.trod_int Try.underlying3 t3
  cases q0; cases q1; cases q3
  obtain ⟨sl, es, rfl, hE, hw⟩ := open_log t2
  exact ⟨⟨z0, z1, es, z3⟩, sl, rfl, hE, hw⟩
theorem open_rec_cells {n : Nat} {cs : List Value} {y : DataW H × List MemPlace} (h : DataW.trod enc Try.prog w base spare held n 27 cs = some y) : ∃ x : RecV, cs = rcv x ∧ LogAt w w.heap.size x.es x.ents ∧ ∀ e ∈ x.ents, wfEnt e := by
  obtain ⟨hl, m, hf⟩ := cells_fields Try.underlying27 (by kernel_rfl) (by kernel_rfl) h
  exact rec_fields Try.underlying27 hl hf
theorem open_rec {r : Reach} {b0 : Nat} {v : Value} {d : DataW H} {p : List MemPlace} (hv : Value.okWide Try.prog w r b0 27 v) (h : DataW.Trod enc Try.prog w base spare held 27 v d p) :
    ∃ x : RecV, v = .agg (rcv x).toArray ∧ LogAt w w.heap.size x.es x.ents ∧ ∀ e ∈ x.ents, wfEnt e := by
  obtain ⟨l, m, rfl, hl, hf⟩ := open_fields Try.underlying27 (by kernel_rfl) (by kernel_rfl) hv h
  obtain ⟨x, rfl, hx⟩ := rec_fields Try.underlying27 hl hf
  exact ⟨x, rfl, hx⟩
theorem open_register {r : Reach} {b0 : Nat} {v : Value} {d : DataW H} {p : List MemPlace} (hv : Value.okWide Try.prog w r b0 24 v) (h : DataW.Trod enc Try.prog w base spare held 24 v d p) :
    ∃ (r : RegS) (sl : SlcE), v = .agg (rgv r sl).toArray ∧ LogAt w w.heap.size sl r.log ∧ ∀ e ∈ r.log, wfEnt e := by
  obtain ⟨l, m, rfl, hl, hf⟩ := open_fields Try.underlying24 (by kernel_rfl) (by kernel_rfl) hv h
  obtain ⟨x, sl, rfl, hx⟩ := reg_fields Try.underlying24 hl hf
  exact ⟨x, sl, rfl, hx⟩
theorem open_recs {r : Reach} {b0 : Nat} {v : Value} {d : DataW H} {p : List MemPlace} (hv : Value.okWide Try.prog w r b0 35 v) (h : DataW.Trod enc Try.prog w base spare held 35 v d p) :
    ∃ (A : Option Addr) (l : List RecV) (c : Nat), v = .slice A l.length c ∧ l.length ≤ c ∧ c ≤ 9223372036854775807 ∧ Recs w w.heap.size A l := by
  obtain ⟨A, len, cap, rfl, h1, h2, h3⟩ := open_rows_any Try.underlying35 (C := 8) (by kernel_rfl) (by omega) hv h
  have h2' : cap ≤ 9223372036854775807 := by simp only [maxLen] at h2; omega
  rcases Nat.eq_zero_or_pos len with h0 | h0
  · subst h0
    exact ⟨A, [], cap, rfl, h1, h2', by simp, fun h => absurd h (by simp)⟩
  · obtain ⟨b, off, rfl, hb, hrow⟩ := h3 h0
    obtain ⟨l, hl, hp⟩ := list_of (p := fun i e => RecAt w b (off + i * 8) e ∧ LogAt w w.heap.size e.es e.ents) len (fun i hi => by
      obtain ⟨cs, n, y, hcl, hcell, ht⟩ := hrow i hi
      obtain ⟨x, rfl, hE, _⟩ := open_rec_cells ht
      exact ⟨x, ⟨hcell 0 (by omega), hcell 1 (by omega), hcell 2 (by omega), hcell 3 (by omega), hcell 4 (by omega), hcell 5 (by omega), hcell 6 (by omega), hcell 7 (by omega)⟩, hE⟩)
    subst hl
    refine ⟨_, l, cap, rfl, h1, h2', fun x hx => ?_, fun _ => ⟨b, off, rfl, hb, fun i e he => (hp i e he).1⟩⟩
    obtain ⟨i, hi⟩ := List.getElem?_of_mem hx
    exact (hp i x hi).2
end
end Go.Proofs.Ytbicefilfhcgoaa

set_option linter.unusedSimpArgs false
set_option linter.unusedVariables false
set_option maxRecDepth 100000
namespace Go.Sq
open Go Go.ChangeShapes Go.WideShapes Go.RowKit Go.Deep
section
variable {H : Type} {enc : TypeId × Value → H} {P : Program} {w : World} {base : Nat} {spare : Nat → Bool} {held : Bool}

theorem ints_of {n k : Nat} {t : TypeId} {fs : Array Field} {l : List Value} {x : DataW H × List MemPlace} (hs : P.underlying t = some (.struct fs)) (hone : oneCellFields P fs = true)
    (hC : P.cellsOf t = fs.size) (h5 : fs.size = k) (hty : ∀ (j : Nat) (f : Field), fs[j]? = some f → P.underlying f.type = some (.int .i64)) (h : DataW.trod enc P w base spare held n t l = some x) :
    ∃ zs : List Int, zs.length = k ∧ l = zs.map (.int .i64) ∧ ∀ z ∈ zs, (Lit.int .i64 z).wf = true := by
  obtain ⟨hl, m, hf⟩ := cells_fields hs hone hC h
  rw [h5] at hl
  obtain ⟨zs, hz, hp⟩ := list_of (p := fun i z => l[i]? = some (.int .i64 z) ∧ (Lit.int .i64 z).wf = true) k (fun j hj => by
    have hj' : j < fs.size := by omega
    obtain ⟨c', y, h1, h2⟩ := hf j _ (Array.getElem?_eq_getElem hj')
    obtain ⟨z, hz, _, hw⟩ := DataW.trod_int (hty j _ (Array.getElem?_eq_getElem hj')) h2
    obtain rfl : c' = .int .i64 z := by simpa using hz
    exact ⟨z, h1, hw⟩)
  refine ⟨zs, hz, List.ext_getElem? (fun i => ?_), fun z hzm => ?_⟩
  · rw [List.getElem?_map]
    by_cases hi : i < k
    · have := (hp i zs[i] (List.getElem?_eq_getElem (by omega))).1
      rw [this, List.getElem?_eq_getElem (by omega)]
      rfl
    · rw [List.getElem?_eq_none (by omega), List.getElem?_eq_none (by omega)]
      rfl
  · obtain ⟨i, hi, rfl⟩ := List.mem_iff_getElem.1 hzm
    exact (hp i _ (List.getElem?_eq_getElem hi)).2
end
end Go.Sq

set_option linter.unusedSimpArgs false
set_option linter.unusedVariables false
set_option maxRecDepth 100000
namespace Go.Sq
open Go Go.ChangeShapes Go.WideShapes Go.RowKit Go.Deep
section
variable {H : Type} {enc : TypeId × Value → H} {P : Program} {w : World} {base : Nat} {spare : Nat → Bool} {held : Bool} {α : Type}

theorem open_sl_in (R : Gr.Enc P α) {q : α → Prop} {k : Nat} {v : Value} {y : DataW H × List MemPlace} (hC : P.cellsOf R.elem = R.size)
    (hdec : ∀ (n : Nat) (cs : List Value) (y : DataW H × List MemPlace), DataW.trod enc P w base spare held n R.elem cs = some y → ∃ a, cs = R.enc a ∧ q a)
    (h : DataW.trod enc P w base spare held k R.slice [v] = some y) :
    ∃ (A : Option Addr) (l : List α) (c : Nat), v = .slice A l.length c ∧ l.length ≤ c ∧ c ≤ 9223372036854775807 ∧ Gr.Sl R w w.heap.size A l ∧ (∀ a ∈ l, q a) ∧ (A = none → c = 0) := by
  obtain ⟨A, len, cap, rfl, h1, h2, h3⟩ := open_rows_in R.und hC R.pos h
  have h2' : cap ≤ 9223372036854775807 := by simp only [maxLen] at h2; omega
  have hnil : A = none → cap = 0 := fun e => by
    subst e
    rcases open_slice R.und h with ⟨hcs, _⟩ | ⟨a, l, c, m, n, D, Pl, hcs, _⟩
    · injection hcs with hcs
      injection hcs
    · injection hcs with hcs
      injection hcs with h
      cases h
  rcases Nat.eq_zero_or_pos len with h0 | h0
  · subst h0
    exact ⟨A, [], cap, rfl, h1, h2', Gr.Sl.nil, by simp, hnil⟩
  · obtain ⟨b, off, rfl, hb, hrow⟩ := h3 h0
    obtain ⟨l, hl, hp⟩ := list_of (p := fun i e => Gr.At R w b (off + i * R.size) e ∧ q e) len (fun i hi => by
      obtain ⟨cs, n, y, hcl, hcell, ht⟩ := hrow i hi
      obtain ⟨a, rfl, hq⟩ := hdec n cs y ht
      exact ⟨a, fun k hk => hcell k hk, hq⟩)
    subst hl
    refine ⟨some ⟨b, off, none⟩, l, cap, rfl, h1, h2', fun _ => ⟨b, off, rfl, hb, fun i e he => (hp i e he).1⟩, fun a ha => ?_, hnil⟩
    obtain ⟨i, hi⟩ := List.getElem?_of_mem ha
    exact (hp i a hi).2
theorem open_sl (R : Gr.Enc P α) {q : α → Prop} {r : Reach} {b0 : Nat} {v : Value} {d : DataW H} {p : List MemPlace} (hC : P.cellsOf R.elem = R.size)
    (hdec : ∀ (n : Nat) (cs : List Value) (y : DataW H × List MemPlace), DataW.trod enc P w base spare held n R.elem cs = some y → ∃ a, cs = R.enc a ∧ q a)
    (hv : Value.okWide P w r b0 R.slice v) (h : DataW.Trod enc P w base spare held R.slice v d p) :
    ∃ (A : Option Addr) (l : List α) (c : Nat), v = .slice A l.length c ∧ l.length ≤ c ∧ c ≤ 9223372036854775807 ∧ Gr.Sl R w w.heap.size A l ∧ (∀ a ∈ l, q a) ∧ (A = none → c = 0) := by
  obtain ⟨a0, len, cap, rfl⟩ := okWide_slice R.und hv
  obtain ⟨fuel, hf⟩ := h
  exact open_sl_in R hC hdec (by simpa [Value.cells] using hf)
end
end Go.Sq

set_option linter.unusedSimpArgs false
set_option linter.unusedVariables false
set_option maxRecDepth 100000
namespace Go.Proofs.Ytbicefilfhcgoaa
open Go Go.ChangeShapes Go.WideShapes Go.RowKit Go.Deep Go.Sq Go.Wd Go.Arch
section
variable {H : Type} {enc : TypeId × Value → H} {w : World} {base : Nat} {spare : Nat → Bool} {held : Bool}

theorem len18 {α : Type} {l : List α} (h : l.length = 18) : ∃ a0 a1 a2 a3 a4 a5 a6 a7 a8 a9 b0 b1 b2 b3 b4 b5 b6 b7, l = [a0, a1, a2, a3, a4, a5, a6, a7, a8, a9, b0, b1, b2, b3, b4, b5, b6, b7] := by
  match l, h with
  | [a0, a1, a2, a3, a4, a5, a6, a7, a8, a9, b0, b1, b2, b3, b4, b5, b6, b7], _ => exact ⟨a0, a1, a2, a3, a4, a5, a6, a7, a8, a9, b0, b1, b2, b3, b4, b5, b6, b7, rfl⟩

set_option maxHeartbeats 2000000 in
theorem open_mail {n : Nat} {cs : List Value} {y : DataW H × List MemPlace} (h : DataW.trod enc Try.prog w base spare held n 65 cs = some y) : ∃ x : MailV, cs = mailv x ∧ LogAt w w.heap.size x.es x.m.ents := by
  have hC : Try.prog.cellsOf 65 = 18 := by kernel_rfl
  have hCi : Try.prog.cellsOf 3 = 1 := by kernel_rfl
  have hCe : Try.prog.cellsOf 22 = 1 := by kernel_rfl
  have hCo : Try.prog.cellsOf 42 = 5 := by kernel_rfl
  have hCa : Try.prog.cellsOf 63 = 3 := by kernel_rfl
  obtain ⟨xs, m, _, _, hl, hlen, hg⟩ := DataW.trod_struct Try.underlying65 h
  rw [hC] at hl
  obtain ⟨c0, c1, c2, c3, c4, c5, c6, c7, c8, c9, b0, b1, b2, b3, b4, b5, b6, b7, rfl⟩ := len18 hl
  have hx : xs.length = 12 := hlen
  have h0 := hg 0 _ rfl
  have h1 := hg 1 _ rfl
  have h2 := hg 2 _ rfl
  have h3 := hg 3 _ rfl
  have h4 := hg 4 _ rfl
  have h5 := hg 5 _ rfl
  have h6 := hg 6 _ rfl
  have h7 := hg 7 _ rfl
  have h8 := hg 8 _ rfl
  have h9 := hg 9 _ rfl
  have h10 := hg 10 _ rfl
  have h11 := hg 11 _ rfl
  simp only [List.getElem_toArray, List.getElem_cons_zero, List.getElem_cons_succ] at h0 h1 h2 h3 h4 h5 h6 h7 h8 h9 h10 h11
  rw [hCi] at h0
  rw [hCi] at h1
  rw [hCi] at h2
  rw [hCi] at h3
  rw [hCi] at h4
  rw [hCi] at h5
  rw [hCi] at h6
  rw [hCi] at h7
  rw [hCi] at h8
  rw [hCe] at h9
  rw [hCo] at h10
  rw [hCa] at h11
  simp only [List.drop_zero, List.take_succ_cons, List.take_zero, List.drop_succ_cons] at h0 h1 h2 h3 h4 h5 h6 h7 h8 h9 h10 h11
  rw [List.getElem?_eq_getElem (show 0 < xs.length by omega)] at h0
  rw [List.getElem?_eq_getElem (show 1 < xs.length by omega)] at h1
  rw [List.getElem?_eq_getElem (show 2 < xs.length by omega)] at h2
  rw [List.getElem?_eq_getElem (show 3 < xs.length by omega)] at h3
  rw [List.getElem?_eq_getElem (show 4 < xs.length by omega)] at h4
  rw [List.getElem?_eq_getElem (show 5 < xs.length by omega)] at h5
  rw [List.getElem?_eq_getElem (show 6 < xs.length by omega)] at h6
  rw [List.getElem?_eq_getElem (show 7 < xs.length by omega)] at h7
  rw [List.getElem?_eq_getElem (show 8 < xs.length by omega)] at h8
  rw [List.getElem?_eq_getElem (show 9 < xs.length by omega)] at h9
  rw [List.getElem?_eq_getElem (show 10 < xs.length by omega)] at h10
  rw [List.getElem?_eq_getElem (show 11 < xs.length by omega)] at h11
  obtain ⟨z0, q0, _, _⟩ := DataW.trod_int Try.underlying3 h0
  obtain ⟨z1, q1, _, _⟩ := DataW.trod_int Try.underlying3 h1
  obtain ⟨z2, q2, _, _⟩ := DataW.trod_int Try.underlying3 h2
  obtain ⟨z3, q3, _, _⟩ := DataW.trod_int Try.underlying3 h3
  obtain ⟨z4, q4, _, _⟩ := DataW.trod_int Try.underlying3 h4
  obtain ⟨z5, q5, _, _⟩ := DataW.trod_int Try.underlying3 h5
  obtain ⟨z6, q6, _, _⟩ := DataW.trod_int Try.underlying3 h6
  obtain ⟨z7, q7, _, _⟩ := DataW.trod_int Try.underlying3 h7
  obtain ⟨z8, q8, _, _⟩ := DataW.trod_int Try.underlying3 h8
  cases q0; cases q1; cases q2; cases q3; cases q4; cases q5; cases q6; cases q7; cases q8
  obtain ⟨sl, es, rfl, hE, _⟩ := open_log h9
  obtain ⟨a, b, c, d, e, h5, _⟩ := five_of (ti := 3) Try.underlying42 (by kernel_rfl) (by kernel_rfl) rfl (by
    intro j f hf
    have hj : j < 5 := (Array.getElem?_eq_some_iff.1 hf).1
    obtain rfl | rfl | rfl | rfl | rfl : j = 0 ∨ j = 1 ∨ j = 2 ∨ j = 3 ∨ j = 4 := by omega
    all_goals
      cases hf
      exact Try.underlying3) h10
  cases h5
  obtain ⟨zs, hz, h6, _⟩ := ints_of (k := 3) Try.underlying63 (by kernel_rfl) (by kernel_rfl) rfl (by
    intro j f hf
    have hj : j < 3 := (Array.getElem?_eq_some_iff.1 hf).1
    obtain rfl | rfl | rfl : j = 0 ∨ j = 1 ∨ j = 2 := by omega
    all_goals
      cases hf
      exact Try.underlying3) h11
  obtain ⟨u0, u1, u2, rfl⟩ := len3 hz
  simp only [List.map_cons, List.map_nil] at h6
  cases h6
  exact ⟨⟨⟨z0, z1, z2, z3, z4, z5, z6, z7, z8, es⟩, sl, (a, b, c, d, e), (u0, u1, u2)⟩, rfl, hE⟩

/-- A slice of mail that comes in. -/
theorem open_mails {r : Reach} {b0 : Nat} {v : Value} {d : DataW H} {p : List MemPlace} (hv : Value.okWide Try.prog w r b0 54 v) (h : DataW.Trod enc Try.prog w base spare held 54 v d p) :
    ∃ (A : Option Addr) (l : List MailV) (c : Nat), v = .slice A l.length c ∧ l.length ≤ c ∧ c ≤ 9223372036854775807 ∧ Mails w w.heap.size A l := by
  obtain ⟨A, l, c, rfl, h1, h2, h3, h4, _⟩ := open_sl mailE (q := fun x => LogAt w w.heap.size x.es x.m.ents) (by kernel_rfl) (fun n cs y h => open_mail h) hv h
  exact ⟨A, l, c, rfl, h1, h2, h3, h4⟩
/-- One piece of mail that comes in. -/
theorem open_mail_one {r : Reach} {b0 : Nat} {v : Value} {d : DataW H} {p : List MemPlace} (hv : Value.okWide Try.prog w r b0 65 v) (h : DataW.Trod enc Try.prog w base spare held 65 v d p) :
    ∃ x : MailV, v = .agg (mailv x).toArray ∧ LogAt w w.heap.size x.es x.m.ents := by
  obtain ⟨⟨l⟩, rfl, hsz⟩ := okWide_struct Try.underlying65 hv
  obtain ⟨fuel, hf⟩ := h
  obtain ⟨x, he, hw⟩ := open_mail (cs := l) hf
  subst he
  exact ⟨x, rfl, hw⟩
def begcells (b : BegS) (own : RegS) (s : SlcE) : List Value := [.int .i64 b.stream, .int .i64 b.epoch, .int .i64 b.site, .int .i64 b.n, .int .i64 b.stamp, .int .i64 own.prom, .int .i64 own.view, .slice s.1 s.2.1 s.2.2, .int .i64 own.com]
theorem len9 {α : Type} {l : List α} (h : l.length = 9) : ∃ a0 a1 a2 a3 a4 a5 a6 a7 a8, l = [a0, a1, a2, a3, a4, a5, a6, a7, a8] := by
  match l, h with
  | [a0, a1, a2, a3, a4, a5, a6, a7, a8], _ => exact ⟨a0, a1, a2, a3, a4, a5, a6, a7, a8, rfl⟩
theorem open_begin {r : Reach} {b0 : Nat} {v : Value} {d : DataW H} {p : List MemPlace} (hv : Value.okWide Try.prog w r b0 53 v) (h : DataW.Trod enc Try.prog w base spare held 53 v d p) :
    ∃ (b : BegS) (own : RegS) (s : SlcE), v = .agg (begcells b own s).toArray ∧ LogAt w w.heap.size s own.log := by
  have hC : Try.prog.cellsOf 53 = 9 := by kernel_rfl
  have hCi : Try.prog.cellsOf 3 = 1 := by kernel_rfl
  have hCr : Try.prog.cellsOf 24 = 4 := by kernel_rfl
  obtain ⟨⟨l⟩, rfl, hsz⟩ := okWide_struct Try.underlying53 hv
  obtain ⟨fuel, hf⟩ := h
  obtain ⟨xs, m, _, _, hl, hlen, hg⟩ := DataW.trod_struct (cs := l) Try.underlying53 hf
  rw [hC] at hl
  obtain ⟨c0, c1, c2, c3, c4, c5, c6, c7, c8, rfl⟩ := len9 hl
  have hx : xs.length = 6 := hlen
  have h0 := hg 0 _ rfl
  have h1 := hg 1 _ rfl
  have h2 := hg 2 _ rfl
  have h3 := hg 3 _ rfl
  have h4 := hg 4 _ rfl
  have h5 := hg 5 _ rfl
  simp only [List.getElem_toArray, List.getElem_cons_zero, List.getElem_cons_succ] at h0 h1 h2 h3 h4 h5
  rw [hCi] at h0
  rw [hCi] at h1
  rw [hCi] at h2
  rw [hCi] at h3
  rw [hCi] at h4
  rw [hCr] at h5
  simp only [List.drop_zero, List.take_succ_cons, List.take_zero, List.drop_succ_cons] at h0 h1 h2 h3 h4 h5
  rw [List.getElem?_eq_getElem (show 0 < xs.length by omega)] at h0
  rw [List.getElem?_eq_getElem (show 1 < xs.length by omega)] at h1
  rw [List.getElem?_eq_getElem (show 2 < xs.length by omega)] at h2
  rw [List.getElem?_eq_getElem (show 3 < xs.length by omega)] at h3
  rw [List.getElem?_eq_getElem (show 4 < xs.length by omega)] at h4
  rw [List.getElem?_eq_getElem (show 5 < xs.length by omega)] at h5
  obtain ⟨z0, q0, _, _⟩ := DataW.trod_int Try.underlying3 h0
  obtain ⟨z1, q1, _, _⟩ := DataW.trod_int Try.underlying3 h1
  obtain ⟨z2, q2, _, _⟩ := DataW.trod_int Try.underlying3 h2
  obtain ⟨z3, q3, _, _⟩ := DataW.trod_int Try.underlying3 h3
  obtain ⟨z4, q4, _, _⟩ := DataW.trod_int Try.underlying3 h4
  cases q0; cases q1; cases q2; cases q3; cases q4
  obtain ⟨hlr, mr, hfr⟩ := cells_fields Try.underlying24 (by kernel_rfl) (by kernel_rfl) h5
  obtain ⟨own, sl, hcs, hE, _⟩ := reg_fields Try.underlying24 hlr hfr
  unfold rgv at hcs
  cases hcs
  exact ⟨⟨z0, z1, z2, z3, z4⟩, own, sl, rfl, hE⟩
end
end Go.Proofs.Ytbicefilfhcgoaa
