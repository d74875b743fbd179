/-
  The walk over 'register.viewed'.
-/
import Derived.Test.YtbicefilfhcgoaaRegClone
set_option linter.unusedSimpArgs false
set_option linter.unusedVariables false
set_option maxRecDepth 100000
namespace Go.Proofs.Ytbicefilfhcgoaa
open Go Go.RowKit Go.Sq Go.Wd Go.Arch

theorem viewR_no {r : RegS} {x : RecS} (h : ¬ ((1 ≤ x.epoch ∧ r.prom ≤ x.epoch ∧ x.epoch ≤ 1048576 ∧ x.from_ = fromR r x) ∧ okLog (logR r x) x.epoch = true ∧ r.log.take r.com.toNat <+: logR r x)) : viewR r x = none := by
  unfold viewR; rw [if_neg h]
theorem viewR_yes {r : RegS} {x : RecS} (h : (1 ≤ x.epoch ∧ r.prom ≤ x.epoch ∧ x.epoch ≤ 1048576 ∧ x.from_ = fromR r x) ∧ okLog (logR r x) x.epoch = true ∧ r.log.take r.com.toNat <+: logR r x) :
    viewR r x = some ⟨x.epoch, x.epoch, logR r x, r.com⟩ := by
  unfold viewR; rw [if_pos h]

/-- What 'viewed' tells. -/
def ViewP (A : Option Addr) (r : RegS) (x : RecS) (w : World) (e : Ending) (w' : World) : Prop :=
  ∃ sl : SlcE, e = .returned (.tuple #[.slice sl.1 sl.2.1 sl.2.2, .bool (viewR r x).isSome]) ∧ (∀ a, viewR r x = some a → LogAt w' w'.heap.size sl a.log ∧ (sl.1 = A ∨ ∃ g, sl.1 = some ⟨g, 0, none⟩ ∧ w.heap.size ≤ g)) ∧ Below w.heap.size w w'
theorem ViewP.no {A : Option Addr} {r : RegS} {x : RecS} {w w' : World} {e : Ending} (h : viewR r x = none) (sl : SlcE) (he : e = .returned (.tuple #[.slice sl.1 sl.2.1 sl.2.2, .bool false])) (hb : Below w.heap.size w w') : ViewP A r x w e w' := by
  refine ⟨sl, by rw [h]; exact he, fun a ha => ?_, hb⟩
  rw [h] at ha
  cases ha

set_option maxHeartbeats 8000000 in
theorem viewed_any (r : RegS) (sl : SlcE) (x : RecV) (w : World) (hm : mayR r = true) (hl : LogAt w w.heap.size sl r.log) (hx : LogAt w w.heap.size x.es x.ents) (hx2 : x.ents.length ≤ 1000) :
    Calls Try.prog 46 #[.agg (rgv r sl).toArray, .agg (rcv x).toArray] w (ViewP sl.1 r x.s w) := by
  obtain ⟨⟨m1, m2, m3⟩, m4, m5, m6⟩ := (mayR_iff r).1 hm
  have m64 := ((okLog_iff _ _).1 m4).1
  clear m4 hm
  obtain ⟨p, v, lg, k⟩ := r
  obtain ⟨A, n, c⟩ := sl
  obtain rfl : n = lg.length := hl.1
  obtain ⟨kd, st, ep, vw, fr, ln, ⟨B, nb, d⟩, es, ⟨F, nf, cf⟩⟩ := x
  obtain rfl : nb = es.length := hx.1
  dsimp only at m1 m2 m3 m5 m6 m64 hx2
  obtain ⟨kn, rfl⟩ : ∃ kn : Nat, k = kn := ⟨k.toNat, by omega⟩
  have hlc : lg.length ≤ c := hl.2.1
  have hc2 : c ≤ 9223372036854775807 := hl.2.2.1
  have hkc : kn ≤ c := by omega
  have hw0 : Below w.heap.size w ((w.alloc (.cells (rgv ⟨p, v, lg, kn⟩ (A, lg.length, c)).toArray 24)).alloc (.cells (rcv ⟨kd, st, ep, vw, fr, ln, (B, es.length, d), es, (F, nf, cf)⟩).toArray 27)) := ((Below.refl _ _).alloc (Nat.le_refl _) _).alloc (by simp) _
  have B0 := (Blk.new w 24 (rgv ⟨p, v, lg, kn⟩ (A, lg.length, c))).alloc (.cells (rcv ⟨kd, st, ep, vw, fr, ln, (B, es.length, d), es, (F, nf, cf)⟩).toArray 27)
  have B1 := Blk.new1 w (.cells (rgv ⟨p, v, lg, kn⟩ (A, lg.length, c)).toArray 24) 27 (rcv ⟨kd, st, ep, vw, fr, ln, (B, es.length, d), es, (F, nf, cf)⟩)
  unfold rgv rcv at hw0 B0 B1
  have HH := Lib.hid (And.intro hw0 (And.intro B0 (And.intro B1 (And.intro (hl.keep hw0) (hx.keep hw0)))))
  clear hw0 B0 B1 hl hx
  unfold rgv rcv
  by_cases a1 : 1 ≤ ep
  case neg =>
    have HN := Lib.hid (viewR_no (r := ⟨p, v, lg, kn⟩) (x := ⟨kd, st, ep, vw, fr, ln, es⟩) (fun h => a1 h.1.1))
    go_enter Try.func46, Try.ntmps46
    go_wp2_with fail
    go_ret2
    exact ViewP.no HN.out (none, 0, 0) rfl HH.out.1
  by_cases a2 : p ≤ ep
  case neg =>
    have HN := Lib.hid (viewR_no (r := ⟨p, v, lg, kn⟩) (x := ⟨kd, st, ep, vw, fr, ln, es⟩) (fun h => a2 h.1.2.1))
    go_enter Try.func46, Try.ntmps46
    go_wp2_with fail
    go_ret2
    exact ViewP.no HN.out (none, 0, 0) rfl HH.out.1
  by_cases a3 : ep ≤ 1048576
  case neg =>
    have HN := Lib.hid (viewR_no (r := ⟨p, v, lg, kn⟩) (x := ⟨kd, st, ep, vw, fr, ln, es⟩) (fun h => a3 h.1.2.2.1))
    go_enter Try.func46, Try.ntmps46
    go_wp2_with fail
    go_ret2
    exact ViewP.no HN.out (none, 0, 0) rfl HH.out.1
  by_cases a4 : 0 ≤ fr
  case neg =>
    have HN := Lib.hid (viewR_no (r := ⟨p, v, lg, kn⟩) (x := ⟨kd, st, ep, vw, fr, ln, es⟩) (fun h => a4 (by have := h.1.2.2.2; dsimp only at this; omega)))
    go_enter Try.func46, Try.ntmps46
    go_wp2_with fail
    go_ret2
    exact ViewP.no HN.out (none, 0, 0) rfl HH.out.1
  have hfl : fromR ⟨p, v, lg, kn⟩ ⟨kd, st, ep, vw, fr, ln, es⟩ ≤ lg.length := by unfold fromR; split <;> simp
  by_cases a5 : fr ≤ (lg.length : Int)
  case neg =>
    have HN := Lib.hid (viewR_no (r := ⟨p, v, lg, kn⟩) (x := ⟨kd, st, ep, vw, fr, ln, es⟩) (fun h => a5 (by have := h.1.2.2.2; dsimp only at this; omega)))
    clear hfl
    go_enter Try.func46, Try.ntmps46
    go_wp2_with fail
    go_ret2
    exact ViewP.no HN.out (none, 0, 0) rfl HH.out.1
  obtain ⟨fn, rfl⟩ : ∃ fn : Nat, fr = fn := ⟨fr.toNat, by omega⟩
  have hF : (v < ep → fromR ⟨p, v, lg, kn⟩ ⟨kd, st, ep, vw, fn, ln, es⟩ = 0) ∧ (ep = v → fromR ⟨p, v, lg, kn⟩ ⟨kd, st, ep, vw, fn, ln, es⟩ = lg.length) := by
    unfold fromR
    exact ⟨fun h => by rw [if_neg (by show ¬ ep = v; omega)], fun h => by rw [if_pos h]⟩
  by_cases b1 : v < ep ∧ 0 < fn
  case pos =>
    have HN := Lib.hid (viewR_no (r := ⟨p, v, lg, kn⟩) (x := ⟨kd, st, ep, vw, fn, ln, es⟩) (fun h => by have h1 := h.1.2.2.2; rw [hF.1 b1.1] at h1; dsimp only at h1; omega))
    obtain ⟨b2, b3⟩ := b1
    have b4 : (0 : Int) < (fn : Int) := by omega
    clear hF hfl
    go_enter Try.func46, Try.ntmps46
    go_wp2_with fail
    go_ret2
    exact ViewP.no HN.out (none, 0, 0) rfl HH.out.1
  by_cases b5 : ep = v ∧ fn < lg.length
  case pos =>
    have HN := Lib.hid (viewR_no (r := ⟨p, v, lg, kn⟩) (x := ⟨kd, st, ep, vw, fn, ln, es⟩) (fun h => by have h1 := h.1.2.2.2; rw [hF.2 b5.1] at h1; dsimp only at h1; omega))
    obtain ⟨b2, b3⟩ := b5
    clear hF hfl b1
    subst b2
    have b4 : ¬ ep < ep := by omega
    go_enter Try.func46, Try.ntmps46
    go_wp2_with fail
    go_ret2
    exact ViewP.no HN.out (none, 0, 0) rfl HH.out.1
  have hfr : fromR ⟨p, v, lg, kn⟩ ⟨kd, st, ep, vw, fn, ln, es⟩ = fn := by
    by_cases h : v < ep
    · rw [hF.1 h]; have : ¬ 0 < fn := fun h' => b1 ⟨h, h'⟩; omega
    · have he : ep = v := by omega
      rw [hF.2 he]; have : ¬ fn < lg.length := fun h' => b5 ⟨he, h'⟩; omega
  have hL : logR ⟨p, v, lg, kn⟩ ⟨kd, st, ep, vw, fn, ln, es⟩ = lg.take fn ++ es := by unfold logR; rw [hfr]
  have hfn : fn ≤ lg.length := by omega
  have hV := fun (h1 : okLog (lg.take fn ++ es) ep = true) (h2 : lg.take kn <+: lg.take fn ++ es) => viewR_yes (r := ⟨p, v, lg, kn⟩) (x := ⟨kd, st, ep, vw, fn, ln, es⟩) ⟨⟨a1, a2, a3, by rw [hfr]⟩, by rw [hL]; exact h1, by rw [hL]; exact h2⟩
  have hN := fun (h : ¬ (okLog (lg.take fn ++ es) ep = true ∧ lg.take kn <+: lg.take fn ++ es)) => viewR_no (r := ⟨p, v, lg, kn⟩) (x := ⟨kd, st, ep, vw, fn, ln, es⟩) (fun hh => h (by have := hh.2; rw [hL] at this; exact this))
  rw [hL] at hV
  have HV := Lib.hid (And.intro hV hN)
  obtain ⟨⟨A1, n1, c1⟩, w2, hrun, hLA, hb2, hwh⟩ := app_full (lg.take fn) es A B d ((w.alloc (.cells #[.int .i64 p, .int .i64 v, .slice A lg.length c, .int .i64 kn] 24)).alloc (.cells #[.int .i64 kd, .int .i64 st, .int .i64 ep, .int .i64 vw, .int .i64 fn, .int .i64 ln, .slice B es.length d, .slice F nf cf] 27)).drew
    (HH.out.2.2.2.1.2.2.2.take fn) HH.out.2.2.2.2.2.2.2 (by rw [List.length_take]; omega)
  rw [List.length_take, Nat.min_eq_left hfn] at hrun
  have hln : (lg.take fn ++ es).length = fn + es.length := by rw [List.length_append, List.length_take, Nat.min_eq_left hfn]
  obtain rfl : n1 = fn + es.length := hLA.1.trans hln
  dsimp only at hrun
  have hwh' : A1 = A ∨ ∃ g, A1 = some ⟨g, 0, none⟩ ∧ w.heap.size ≤ g := hwh.imp id (fun ⟨g, h1, h2⟩ => ⟨g, h1, Nat.le_trans (by simp; omega) h2⟩)
  have HWH := Lib.hid hwh'
  have HL := Lib.hid (And.intro hLA hb2)
  clear hwh hwh' hLA hb2 hV hN hL hfr hF hfl
  have hfc : fn ≤ c := by omega
  have e1 : ¬ (v < ep ∧ (0 : Int) < (fn : Int)) := fun h => b1 ⟨h.1, by omega⟩
  have e2 : ¬ (ep = v ∧ (fn : Int) < (lg.length : Int)) := fun h => b5 ⟨h.1, by omega⟩
  have hcases : (v < ep ∧ ¬ (0 : Int) < (fn : Int) ∧ (ep == v) = false) ∨ (¬ v < ep ∧ (ep == v) = true ∧ ¬ (fn : Int) < (lg.length : Int)) := by
    by_cases h : v < ep
    · exact .inl ⟨h, fun h' => e1 ⟨h, h'⟩, by rw [beq_eq_false_iff_ne]; omega⟩
    · have he : ep = v := by omega
      exact .inr ⟨h, by rw [beq_iff_eq]; exact he, fun h' => e2 ⟨he, h'⟩⟩
  clear b1 b5 e1 e2
  rcases hcases with ⟨f1, f2, f3⟩ | ⟨f1, f2, f3⟩
  all_goals
    go_enter Try.func46, Try.ntmps46
    go_wp2_with fail
    refine wp_region_p ([(0, true), (1, true), (2, true), (3, true), (4, true), (5, true), (6, true), (7, true), (8, true), (9, false), (10, true)]) (fun w' => Below w.heap.size w w' ∧ Blk w' w.heap.size 24 [.int .i64 p, .int .i64 v, .slice A lg.length c, .int .i64 kn] ∧ Blk w' (w.heap.size + 1) 27 [.int .i64 kd, .int .i64 st, .int .i64 ep, .int .i64 vw, .int .i64 fn, .int .i64 ln, .slice B es.length d, .slice F nf cf]) (by kernel_rfl) rfl (by kernel_rfl) (by kernel_rfl) (⟨HH.out.1.drew, HH.out.2.1.drew, HH.out.2.2.1.drew⟩) rfl ?_
    intro KP RP TP hKP hTP hTP'
    simp only [pick, nth]
    go_wp2_with (first
      | (apply SeqP.skip; rfl; simp only [Act.put, List.setIfInBounds_toArray, List.set_cons_zero, List.set_cons_succ])
      | (apply SeqP.call; rfl; rfl; (intro w2 hw; have hw := hTP _ hw; ((have r2 := hw.2.1.cell 2; have x4 := hw.2.2.cell 4; have x6 := hw.2.2.cell 6; simp at r2 x4 x6)); go_simp; exact ⟨rfl, rfl⟩); (intro w2 hw; have hw := hTP _ hw; ((have r2 := hw.2.1.cell 2; have x4 := hw.2.2.cell 4; have x6 := hw.2.2.cell 6; simp at r2 x4 x6)); (first | fail)); simp only [Act.put, List.setIfInBounds_toArray, List.set_cons_zero, List.set_cons_succ])
      | (apply SeqP.pure; rfl; (intro w2 hw; have hw := hTP _ hw; ((have r2 := hw.2.1.cell 2; have x4 := hw.2.2.cell 4; have x6 := hw.2.2.cell 6; simp at r2 x4 x6)); go_simp; with_reducible rfl); simp only [Act.put, List.setIfInBounds_toArray, List.set_cons_zero, List.set_cons_succ])
      | (apply SeqP.split; rfl; rfl; all_goals (intro hc; simp only [hc]; try simp only [beq_iff_eq, decide_eq_true_eq, beq_eq_false_iff_ne, decide_eq_false_iff_not, bne_iff_ne, ne_eq, Bool.not_eq_true', Bool.not_eq_false', Int.not_le, Int.not_lt, bne_eq_false_iff_eq, Bool.or_eq_true, Bool.and_eq_true, Bool.or_eq_false_iff] at hc)))
    apply SeqP.eff
    · rfl
    intro KE hKE
    refine oper_app (by rfl) (by rfl) (by rfl) hrun ?_
    have hw2 := below_trans HH.out.1.drew HL.out.2 HH.out.1.size
    have C0 := HH.out.2.1.drew.keep HL.out.2
    have C1 := HH.out.2.2.1.drew.keep HL.out.2
    refine hKE _ _ (hTP' _ ⟨hw2, C0, C1⟩) ?_
    clear hKE KE
    go_wp2_with (first
      | (apply SeqP.skip; rfl; simp only [Act.put, List.setIfInBounds_toArray, List.set_cons_zero, List.set_cons_succ])
      | (apply SeqP.call; rfl; rfl; (intro w2 hw; have hw := hTP _ hw; (skip); go_simp; exact ⟨rfl, rfl⟩); (intro w2 hw; have hw := hTP _ hw; (skip); (first | fail)); simp only [Act.put, List.setIfInBounds_toArray, List.set_cons_zero, List.set_cons_succ])
      | (apply SeqP.pure; rfl; (intro w2 hw; have hw := hTP _ hw; (skip); go_simp; with_reducible rfl); simp only [Act.put, List.setIfInBounds_toArray, List.set_cons_zero, List.set_cons_succ])
      | (apply SeqP.split; rfl; rfl; all_goals (intro hc; simp only [hc]; try simp only [beq_iff_eq, decide_eq_true_eq, beq_eq_false_iff_ne, decide_eq_false_iff_not, bne_iff_ne, ne_eq, Bool.not_eq_true', Bool.not_eq_false', Int.not_le, Int.not_lt, bne_eq_false_iff_eq, Bool.or_eq_true, Bool.and_eq_true, Bool.or_eq_false_iff] at hc)))
    apply SeqP.nil
    refine hKP _ _ (hTP' _ (⟨hw2, C0, C1⟩)) ?_
    clear hKP hTP hTP'
    have hz2 := hw2.size
    have x2 := C1.cell 2
    simp at x2
    have hml : (lg.take fn ++ es).length ≤ 9223372036854775807 := by rw [List.length_append, List.length_take]; omega
    have hL2 := HL.out.1
    have hLl := (HH.out.2.2.2.1.keep (Below.refl _ _).drew).keep HL.out.2
    have HK := Lib.hid (And.intro hL2 hLl)
    clear hrun HL HH hL2 hLl
    have HLN := Lib.hid hln
    clear hln
    generalize lg.take fn ++ es = mm at hml HV HK HLN ⊢
    go_wp2_with fail
    have hW := whole_any mm A1 c1 ep w2 HK.out.1.2.2.2 hml
    rw [HLN.out] at hW
    refine hW.mono ?_
    clear hW
    rintro e w3 ⟨rfl, hb⟩
    have hw3 := below_trans hw2 hb hz2
    have D0 := C0.keep hb
    have HM := Lib.hid (And.intro (HK.out.1.keep hb) (HK.out.2.keep hb))
    have hz3 := hw3.size
    clear hb HK C0 C1 x2 hw2
    cases hO : okLog mm ep with
    | false =>
      have HN := Lib.hid (HV.out.2 (fun h => by rw [hO] at h; cases h.1))
      clear hO
      go_wp2_with fail
      go_ret2
      exact ViewP.no HN.out (A1, fn + es.length, c1) rfl hw3
    | true =>
      have hP := prefix_any (lg.take kn) mm A A1 c c1 w3 (HM.out.2.2.2.2.take kn) HM.out.1.2.2.2 (by rw [List.length_take]; omega) hml HM.out.1.2.1 HM.out.1.2.2.1
      rw [List.length_take, Nat.min_eq_left (by omega), HLN.out] at hP
      have HP := Lib.hid hP
      have d2 := D0.cell 2
      have d3 := D0.cell 3
      simp at d2 d3
      have HO := Lib.hid hO
      clear hP hO
      go_wp2_with fail
      refine HP.out.mono ?_
      rintro e w4 ⟨rfl, hb⟩
      have hw4 := below_trans hw3 hb hz3
      have hL4 := HM.out.1.keep hb
      clear hb HM HP
      by_cases hpre : lg.take kn <+: mm
      · have hY := HV.out.1 HO.out hpre
        have HY := Lib.hid (And.intro hY hL4)
        rw [decide_eq_true hpre]
        clear hY hL4 hpre
        go_wp2_with fail
        go_ret2
        refine ⟨(A1, fn + es.length, c1), ?_, ?_, hw4⟩
        · show _ = Ending.returned (.tuple #[_, .bool (viewR ⟨p, v, lg, kn⟩ ⟨kd, st, ep, vw, fn, ln, es⟩).isSome])
          rw [HY.out.1]
          rfl
        · intro a ha
          have ha' : viewR ⟨p, v, lg, kn⟩ ⟨kd, st, ep, vw, fn, ln, es⟩ = some a := ha
          rw [HY.out.1] at ha'
          cases ha'
          exact ⟨HY.out.2, HWH.out⟩
      · have HN := Lib.hid (HV.out.2 (fun h => hpre h.2))
        rw [decide_eq_false hpre]
        clear hpre
        go_wp2_with fail
        go_ret2
        exact ViewP.no HN.out (A1, fn + es.length, c1) rfl hw4
end Go.Proofs.Ytbicefilfhcgoaa
