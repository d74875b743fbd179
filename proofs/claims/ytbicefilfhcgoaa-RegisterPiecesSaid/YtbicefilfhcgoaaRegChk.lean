/-
  The walks over 'register.whole', 'Check', the document's 'log' and 'Check'.
-/
import Derived.Test.YtbicefilfhcgoaaAppFull
import Derived.Test.YtbicefilfhcgoaaOrders
import Derived.Test.YtbicefilfhcgoaaMidOps
set_option linter.unusedSimpArgs false
set_option linter.unusedVariables false
set_option maxRecDepth 100000
namespace Go.Proofs.Ytbicefilfhcgoaa
open Go Go.RowKit Go.Sq Go.Wd Go.Arch

theorem okEnt_no {v : Int} {e : Ent} (h : ¬ (1 ≤ e.1 ∧ e.1 ≤ v) ∨ ordOk (ordE e) = false) : okEnt v e = false := by
  unfold okEnt
  rcases h with h | h
  · rw [decide_eq_false h]; rfl
  · rw [h, Bool.and_false]
theorem okLog_no {l : List Ent} {v : Int} {i : Nat} {e : Ent} (he : l[i]? = some e) (h : okEnt v e = false) : okLog l v = false := by
  cases hb : okLog l v
  · rfl
  · have := ((okLog_iff l v).1 hb).2.1 e (List.mem_of_getElem? he)
    rw [h] at this
    cases this
theorem okLog_long {l : List Ent} {v : Int} (h : 64 < l.length) : okLog l v = false := by
  cases hb : okLog l v
  · rfl
  · have := ((okLog_iff l v).1 hb).1
    omega
theorem okLog_all {l : List Ent} {v : Int} (h : ∀ e ∈ l, okEnt v e = true) (hl : l.length ≤ 64) : okLog l v = risesB l := by
  unfold okLog
  rw [decide_eq_true hl, List.all_eq_true.2 h]
  rfl

set_option maxHeartbeats 4000000 in
theorem whole_any (l : List Ent) (A : Option Addr) (c : Nat) (v : Int) (w : World) (ha : Ents w w.heap.size A l) (hl : l.length ≤ 9223372036854775807) :
    Calls Try.prog 49 #[.slice A l.length c, .int .i64 v] w fun e w' => e = .returned (.bool (okLog l v)) ∧ Below w.heap.size w w' := by
  have hw := Below.refl w.heap.size w
  have HE := Lib.hid ha
  clear ha
  go_enter Try.func49, Try.ntmps49
  go_wp2_with fail
  go_loopg [9] l.length (fun q i wr => ∃ (j : Nat), q = l.length - j ∧ j ≤ l.length ∧ i = .int .i64 j ∧ (∀ e ∈ l.take j, okEnt v e = true) ∧ Below w.heap.size w wr)
  case atStart => exact ⟨0, rfl, by omega, rfl, by simp, hw⟩
  case round =>
    clear hw
    obtain ⟨j, hq, hj, rfl, ht, hB⟩ := hrel
    have AA : Aside (gk = l.length - j ∧ ∀ e ∈ l.take j, okEnt v e = true) := ⟨hq, ht⟩
    clear hq ht
    by_cases hlt : j < l.length
    · obtain ⟨b1, o1, x, rfl, hx, FA⟩ := HE.out.at_ hlt
      obtain ⟨q0, q1, q2, q3, q4, q5⟩ := FA _ hB
      have hz := hB.size
      clear FA
      by_cases h1 : x.1 < 1
      · have HN := Lib.hid (okLog_no hx.out (okEnt_no (v := v) (.inl (by omega))))
        go_wp2_with fail
        go_ret
        rw [HN.out]
        exact ⟨rfl, by (repeat (first | with_reducible apply Below.drew | with_reducible refine Below.setCell ?_ (by first | exact Nat.le_refl _ | (simp; done) | (simp; omega) | omega) _ | with_reducible refine Below.alloc ?_ (by first | exact Nat.le_refl _ | (simp; done) | (simp; omega) | omega) _ | with_reducible exact Below.refl _ _ | with_reducible assumption))⟩
      by_cases h2 : v < x.1
      · have HN := Lib.hid (okLog_no hx.out (okEnt_no (v := v) (.inl (by omega))))
        go_wp2_with fail
        go_ret
        rw [HN.out]
        exact ⟨rfl, by (repeat (first | with_reducible apply Below.drew | with_reducible refine Below.setCell ?_ (by first | exact Nat.le_refl _ | (simp; done) | (simp; omega) | omega) _ | with_reducible refine Below.alloc ?_ (by first | exact Nat.le_refl _ | (simp; done) | (simp; omega) | omega) _ | with_reducible exact Below.refl _ _ | with_reducible assumption))⟩
      go_wp2_with fail
      refine (check_any _ _ _ _ _ _).mono ?_
      rintro e w1 ⟨rfl, hb⟩
      have hB1 := below_trans (hB.alloc hz _) hb (by simp; omega)
      clear hb hB
      cases hO : ordOk (ordE x) with
      | false =>
        have HN := Lib.hid (okLog_no hx.out (okEnt_no (v := v) (.inr hO)))
        have hO' : ordOk ⟨x.2.1, x.2.2.1, x.2.2.2.1, x.2.2.2.2.1, x.2.2.2.2.2⟩ = false := hO
        rw [hO']
        simp only [errOf]
        go_wp2_with fail
        go_ret
        rw [HN.out]
        exact ⟨rfl, hB1⟩
      | true =>
        have HT : Hid (∀ e ∈ l.take (j + 1), okEnt v e = true) := Lib.hid (fun e he => by
          rw [List.take_add_one, hx.out] at he
          rcases List.mem_append.1 he with he | he
          · exact AA.out.2 e he
          · obtain rfl : e = x := by simpa using he
            unfold okEnt
            rw [hO, decide_eq_true (by omega)]
            rfl)
        have hO' : ordOk ⟨x.2.1, x.2.2.1, x.2.2.2.1, x.2.2.2.2.1, x.2.2.2.2.2⟩ = true := hO
        rw [hO']
        simp only [errOf]
        go_wp2_with fail
        go_roundg (l.length - (j + 1))
        case measure => have hkk := AA.out.1; omega
        case rel => exact ⟨j + 1, rfl, by omega, by go_num, HT.out, hB1⟩
    · obtain rfl : j = l.length := by omega
      have hall := AA.out.2
      rw [List.take_length] at hall
      have hz := hB.size
      by_cases h64 : 64 < l.length
      · have HN := Lib.hid (okLog_long (v := v) h64)
        clear hall
        go_wp2_with fail
        go_ret
        rw [HN.out]
        exact ⟨rfl, hB⟩
      · have h64' : l.length ≤ 64 := by omega
        have HN := Lib.hid (okLog_all hall h64')
        clear hall
        go_wp2_with fail
        refine (rising_any l A c _ ((HE.out.below hB).more hz) hl).mono ?_
        rintro e w1 ⟨rfl, hb⟩
        have hB1 := below_trans hB hb hz
        clear hb
        go_wp2_with fail
        go_ret
        rw [HN.out]
        exact ⟨rfl, hB1⟩

theorem mayR_no {r : RegS} (h : ¬ ((0 ≤ r.view ∧ r.view ≤ r.prom ∧ r.prom ≤ 1048576) ∧ okLog r.log r.view = true ∧ 0 ≤ r.com ∧ r.com ≤ r.log.length)) : mayR r = false := by
  cases hb : mayR r
  · rfl
  · exact absurd ((mayR_iff r).1 hb) h

set_option maxHeartbeats 4000000 in
theorem check15_any (r : RegS) (sl : SlcE) (w : World) (hl : LogAt w w.heap.size sl r.log) :
    Calls Try.prog 18 #[.agg (rgv r sl).toArray] w fun e w' => e = .returned (.bool (mayR r)) ∧ Below w.heap.size w w' := by
  obtain ⟨p, v, lg, k⟩ := r
  obtain ⟨A, n, c⟩ := sl
  obtain rfl : n = lg.length := hl.1
  have hc2 : lg.length ≤ 9223372036854775807 := Nat.le_trans hl.2.1 hl.2.2.1
  have HE := Lib.hid hl.2.2.2
  clear hl
  unfold rgv
  have hw := Below.refl w.heap.size w
  have hb0 : Below w.heap.size w (w.alloc (.cells #[.int .i64 p, .int .i64 v, .slice A lg.length c, .int .i64 k] 24)) := hw.alloc (Nat.le_refl _) _
  by_cases h1 : 0 ≤ v
  case neg =>
    have HN := Lib.hid (mayR_no (r := ⟨p, v, lg, k⟩) (fun h => h1 h.1.1))
    go_enter Try.func18, Try.ntmps18
    go_wp2_with fail
    go_ret
    rw [HN.out]
    exact ⟨rfl, hb0⟩
  by_cases h2 : v ≤ p
  case neg =>
    have HN := Lib.hid (mayR_no (r := ⟨p, v, lg, k⟩) (fun h => h2 h.1.2.1))
    go_enter Try.func18, Try.ntmps18
    go_wp2_with fail
    go_ret
    rw [HN.out]
    exact ⟨rfl, hb0⟩
  by_cases h3 : p ≤ 1048576
  case neg =>
    have HN := Lib.hid (mayR_no (r := ⟨p, v, lg, k⟩) (fun h => h3 h.1.2.2))
    go_enter Try.func18, Try.ntmps18
    go_wp2_with fail
    go_ret
    rw [HN.out]
    exact ⟨rfl, hb0⟩
  have HH := Lib.hid (And.intro hb0 (Blk.new w 24 [.int .i64 p, .int .i64 v, .slice A lg.length c, .int .i64 k]))
  clear hb0
  go_enter Try.func18, Try.ntmps18
  go_wp2_with fail
  refine (whole_any lg A c v _ ((HE.out.below HH.out.1).more HH.out.1.size) hc2).mono ?_
  rintro e w1 ⟨rfl, hb⟩
  have hw1 := below_trans HH.out.1 hb HH.out.1.size
  have B1 := HH.out.2.keep hb
  clear hb HH
  cases hO : okLog lg v with
  | false =>
    have HN := Lib.hid (mayR_no (r := ⟨p, v, lg, k⟩) (fun h => by have := h.2.1; dsimp only at this; rw [hO] at this; cases this))
    clear hO
    go_wp2_with fail
    go_ret
    rw [HN.out]
    exact ⟨rfl, hw1⟩
  | true =>
    have c2 := B1.cell 2
    have c3 := B1.cell 3
    simp at c2 c3
    have HO := Lib.hid hO
    clear hO
    by_cases h4 : 0 ≤ k
    case neg =>
      have HN := Lib.hid (mayR_no (r := ⟨p, v, lg, k⟩) (fun h => h4 h.2.2.1))
      go_wp2_with fail
      go_ret
      rw [HN.out]
      exact ⟨rfl, hw1⟩
    by_cases h5 : k ≤ (lg.length : Int)
    case neg =>
      have HN := Lib.hid (mayR_no (r := ⟨p, v, lg, k⟩) (fun h => h5 h.2.2.2))
      have d5 : decide (k ≤ (lg.length : Int)) = false := decide_eq_false h5
      go_wp2_with fail
      go_ret
      rw [HN.out]
      exact ⟨rfl, hw1⟩
    have HN := Lib.hid ((mayR_iff ⟨p, v, lg, k⟩).2 ⟨⟨h1, h2, h3⟩, HO.out, h4, h5⟩)
    have d5 : decide (k ≤ (lg.length : Int)) = true := decide_eq_true h5
    go_wp2_with fail
    go_ret
    rw [HN.out]
    exact ⟨rfl, hw1⟩
end Go.Proofs.Ytbicefilfhcgoaa
