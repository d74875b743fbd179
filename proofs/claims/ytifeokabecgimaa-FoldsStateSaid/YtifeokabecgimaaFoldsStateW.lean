/-
  The walk over the statement 'FoldsState'.
-/
import Derived.Test.YtifeokabecgimaaWorks13
import Derived.Test.YtifeokabecgimaaOpen2
import Derived.Test.YtifeokabecgimaaFoldSame
import Derived.Test.YtifeokabecgimaaFoldLaws2
import Derived.Test.YtifeokabecgimaaSeqZ
set_option linter.unusedSimpArgs false
set_option linter.unusedVariables false
set_option maxRecDepth 100000
namespace Go.Proofs.Ytifeokabecgimaa
open Go Go.RowKit Go.Sq Go.Wd Go.Arch

set_option maxHeartbeats 4000000 in
theorem foldsState_walk (l : List Ent) (A : Option Addr) (c : Nat) (w : World) (ha : Ents w w.heap.size A l) (hl : l.length ≤ 9223372036854775807) (hwf : ∀ e ∈ l, wfEnt e) :
    Calls Try.prog 6 #[.slice A l.length c] w fun e w' => e = .returned (.bool true) ∧ Below w.heap.size w w' := by
  have hw := Below.refl w.heap.size w
  by_cases h1 : 300 < l.length
  · clear ha hwf
    go_enter Try.func6, Try.ntmps6
    go_wp2_with fail
    go_ret
    exact ⟨rfl, hw⟩
  have l1 : l.length ≤ 300 := by omega
  clear h1
  have hO1 := of_any l A c w ha (by omega) (fun e he => (hwf e he).2.1)
  clear ha hwf
  have hlen : (foldS l).2.length = l.length := fold_len l l.length (Nat.le_refl _)
  go_enter Try.func6, Try.ntmps6
  go_wp2_with fail
  refine hO1.mono ?_
  rintro e w1 ⟨v, rfl, hO, hw1⟩
  clear hO1 hw
  have R1 := hO.toR
  clear hO
  obtain ⟨A1, c1, rfl, q1, q2, R⟩ := R1
  rw [hlen] at q1 ⊢
  have HL := Lib.hid (And.intro (show (foldS l).1 = (foldTo l l.length).1 from rfl) hlen)
  have hw1z := hw1.size
  clear hlen
  have R' : ∀ k, k < l.length → ∃ (g : Nat) (sl : Sl) (o : OutS), A1 = some ⟨g, 0, none⟩ ∧ g < w1.heap.size ∧ Hid (StepO (foldTo l k).1 (foldTo l (k + 1)).1 o) ∧ EvAt w1 0 none sl o.2.2 ∧
      w1.cell? ⟨g, k * 3, none⟩ = some (.int .i64 o.1) ∧ w1.cell? ⟨g, k * 3 + 1, none⟩ = some (.int .i64 o.2.1) ∧ w1.cell? ⟨g, k * 3 + 2, none⟩ = some (.slice sl.1 sl.2.1 sl.2.2) := by
    intro k hk
    obtain ⟨o, ho, hs⟩ := fold_at hk
    obtain ⟨g, sl, h1, h2, h3, h4, h5, h6⟩ := R k o ho
    exact ⟨g, sl, o, h1, h2, Lib.hid hs, h3, h4, h5, h6⟩
  have HR := Lib.hid R'
  clear R R'
  generalize (foldS l).1 = s at HL ⊢
  simp only [stv]
  go_wp2_with fail
  go_loopg [7, 6] l.length (fun q i m wr => ∃ j : Nat, q = l.length - j ∧ j ≤ l.length ∧ i = .int .i64 j ∧ m = .int .i64 (foldTo l j).1.ver ∧ Below w1.heap.size w1 wr ∧
    Blk wr w1.heap.size 25 (stv s) ∧ Blk wr (w1.heap.size + 1) 25 (stv (foldTo l j).1))
  case atStart =>
    exact ⟨0, rfl, by omega, rfl, rfl, by (repeat (first | with_reducible apply Below.drew | with_reducible refine Below.setCell ?_ (by first | exact Nat.le_refl _ | (simp; done) | (simp; omega) | omega) _ | with_reducible refine Below.alloc ?_ (by first | exact Nat.le_refl _ | (simp; done) | (simp; omega) | omega) _ | with_reducible exact Below.refl _ _ | with_reducible assumption)), (Blk.new w1 _ (stv s)).alloc _, Blk.new1 w1 _ _ (stv ⟨0, false, 0, 0⟩)⟩
  case round =>
    obtain ⟨j, hk, hj, rfl, rfl, hB, hS, hT⟩ := hrel
    have AA : Aside (gk = l.length - j) := hk
    clear hk
    by_cases hlt : j < l.length
    · obtain ⟨g, sl, o, rfl, hg, HS, hev, d0, d1, d2⟩ := HR.out j hlt
      have hv := fold_ver l j hj
      have HV := Lib.hid hv
      clear hv
      have x0 := (hB.cell (p := ⟨g, _, none⟩) hg).trans d0
      have x1 := (hB.cell (p := ⟨g, _, none⟩) hg).trans d1
      have x2 := (hB.cell (p := ⟨g, _, none⟩) hg).trans d2
      have hev2 := hev.pure hB
      have hzB := hB.size
      rcases hev2 with ⟨he, rfl⟩ | ⟨ge, k, a, rfl, he, _, g2, _, y0, y1, _⟩
      · have hs : (foldTo l (j + 1)).1 = (foldTo l j).1 := by
          rcases HS.out with h | ⟨_, _, h, _⟩
          · exact h.2
          · rw [he] at h; cases h
        have HE := Lib.hid (And.intro hs he)
        clear hs he hev
        by_cases ho1 : o.1 = 1
        · have ho2 : (o.1 == 1) = true := by simpa using ho1
          clear ho1
          go_wp2_with fail
          refine wp_loop_rounds 1 ?_
          rw [rounds_succ]
          go_wp2_with fail
          go_roundg (l.length - (j + 1))
          case measure => have hkk := AA.out; omega
          case rel => exact ⟨j + 1, rfl, by omega, by go_num, by rw [HE.out.1], hB, hS, by rw [HE.out.1]; exact hT⟩
        · have ho2 : (o.1 == 1) = false := by simpa using ho1
          clear ho1
          go_wp2_with fail
          refine wp_loop_rounds 1 ?_
          rw [rounds_succ]
          go_wp2_with fail
          go_roundg (l.length - (j + 1))
          case measure => have hkk := AA.out; omega
          case rel => exact ⟨j + 1, rfl, by omega, by go_num, by rw [HE.out.1], hB, hS, by rw [HE.out.1]; exact hT⟩
      · obtain ⟨h1, h2, h3, h4⟩ : (foldTo l (j + 1)).1 = applyS (foldTo l j).1 ⟨k, a⟩ ∧ (foldTo l (j + 1)).1.ver = (foldTo l j).1.ver + 1 ∧ o.1 = 1 ∧ o.2.1 = (foldTo l j).1.ver + 1 := by
          rcases HS.out with h | ⟨_, _, h, h'⟩
          · rw [he] at h; cases h.1
          · rw [he] at h; cases h; exact h'
        rw [h3] at x0
        rw [h4, ← h2] at x1
        have hge : ge < w1.heap.size := by
          rcases hev with h | ⟨ge', _, _, h, _, _, h', _⟩
          · rw [he] at h; cases h.1
          · cases h; exact h'
        have wv : IntKind.i64.wrap ((foldTo l j).1.ver + 1) = (foldTo l (j + 1)).1.ver := by rw [h2]; exact IntWalk.i64_in _ (by have := HV.out; omega)
        have HE := Lib.hid (And.intro h1 (And.intro h2 he))
        clear h1 h2 h3 h4 he d0 d1 d2 hev
        go_wp2_with fail
        refine wp_loop_rounds 2 ?_
        rw [rounds_succ]
        go_wp2_with fail
        refine wp_region_z [(0, true), (1, true), (2, true), (3, true), (4, true), (5, true), (6, true), (7, true), (8, true), (9, false)] 10 (fun w' => Blk w' (w1.heap.size + 1) 25 (stv (foldTo l j).1) ∧ Below wr.heap.size wr w') (by kernel_rfl) (by kernel_rfl) (by kernel_rfl) (⟨hT.drew, (Below.refl _ _).drew⟩) rfl ?_
        intro KP RP TP hKP hTP hTP'
        simp only [pick, nth]
        go_wp2_with (first
          | (apply SeqP.skip; rfl; simp only [Act.put, List.setIfInBounds_toArray, List.set_cons_zero, List.set_cons_succ])
          | (apply SeqP.call; rfl; rfl; (intro w2 hw; have hw := hTP _ hw; ((obtain ⟨q0, hbb⟩ := hw; have s0 := q0.cell 0; have s1 := q0.cell 1; have s2 := q0.cell 2; have s3 := q0.cell 3; simp [stv] at s0 s1 s2 s3; have z2 := (hbb.cell (p := ⟨g, _, none⟩) (show g < wr.heap.size by omega)).trans x2; have z3 := (hbb.cell (p := ⟨ge, 0, none⟩) g2).trans y0; have z4 := (hbb.cell (p := ⟨ge, 1, none⟩) g2).trans y1)); go_simp; exact ⟨rfl, rfl⟩); (intro w2 hw; have hw := hTP _ hw; ((obtain ⟨q0, hbb⟩ := hw; have s0 := q0.cell 0; have s1 := q0.cell 1; have s2 := q0.cell 2; have s3 := q0.cell 3; simp [stv] at s0 s1 s2 s3; have z2 := (hbb.cell (p := ⟨g, _, none⟩) (show g < wr.heap.size by omega)).trans x2; have z3 := (hbb.cell (p := ⟨ge, 0, none⟩) g2).trans y0; have z4 := (hbb.cell (p := ⟨ge, 1, none⟩) g2).trans y1)); (first | fail)); simp only [Act.put, List.setIfInBounds_toArray, List.set_cons_zero, List.set_cons_succ])
          | (apply SeqP.pure; rfl; (intro w2 hw; have hw := hTP _ hw; ((obtain ⟨q0, hbb⟩ := hw; have s0 := q0.cell 0; have s1 := q0.cell 1; have s2 := q0.cell 2; have s3 := q0.cell 3; simp [stv] at s0 s1 s2 s3; have z2 := (hbb.cell (p := ⟨g, _, none⟩) (show g < wr.heap.size by omega)).trans x2; have z3 := (hbb.cell (p := ⟨ge, 0, none⟩) g2).trans y0; have z4 := (hbb.cell (p := ⟨ge, 1, none⟩) g2).trans y1)); go_simp; with_reducible rfl); simp only [Act.put, List.setIfInBounds_toArray, List.set_cons_zero, List.set_cons_succ])
          | (apply SeqP.split; rfl; rfl; all_goals (intro hc; simp only [hc]; try simp only [beq_iff_eq, decide_eq_true_eq, beq_eq_false_iff_ne, decide_eq_false_iff_not, bne_iff_ne, ne_eq, Bool.not_eq_true', Bool.not_eq_false', Int.not_le, Int.not_lt, bne_eq_false_iff_eq, Bool.or_eq_true, Bool.and_eq_true, Bool.or_eq_false_iff] at hc)))
        apply SeqP.eff
        · rfl
        intro KE hKE
        go_wp2_with fail
        refine (apply_any _ _ _ _ _ _ _).mono ?_
        rintro e w4 ⟨rfl, hb⟩
        generalize hap : applyS ⟨(foldTo l j).1.tag, (foldTo l j).1.closed, (foldTo l j).1.sum, (foldTo l j).1.ver⟩ ⟨k, a⟩ = p
        obtain rfl : (foldTo l (j + 1)).1 = p := by rw [← hap]; exact HE.out.1
        clear hap
        have hbd : Below wr.heap.size wr w4 := below_trans (Below.refl _ _).drew hb (Nat.le_refl _)
        refine hKE _ _ (hTP' _ ⟨hT.keep hbd, hbd⟩) ?_
        clear hKE KE hTP hTP'
        have hB4 := below_trans hB hbd hzB
        have hS4 := hS.keep hbd
        have hT4 := hT.keep hbd
        have z0 := (hbd.cell (p := ⟨g, _, none⟩) (show g < wr.heap.size by omega)).trans x0
        have z1 := (hbd.cell (p := ⟨g, _, none⟩) (show g < wr.heap.size by omega)).trans x1
        have z2 := (hbd.cell (p := ⟨g, _, none⟩) (show g < wr.heap.size by omega)).trans x2
        have hT5 := ((((hT4.set 0 (.int .i64 (foldTo l (j + 1)).1.tag)).set 1 (.bool (foldTo l (j + 1)).1.closed)).set 2 (.int .i64 (foldTo l (j + 1)).1.sum)).set 3 (.int .i64 (foldTo l (j + 1)).1.ver)).of_eq (cs' := stv (foldTo l (j + 1)).1) rfl
        have hS5 := (((hS4.far (p := ⟨w1.heap.size + 1, 0, none⟩) (by simp) (.int .i64 (foldTo l (j + 1)).1.tag)).far (p := ⟨w1.heap.size + 1, 1, none⟩) (by simp) (.bool (foldTo l (j + 1)).1.closed)).far (p := ⟨w1.heap.size + 1, 2, none⟩) (by simp) (.int .i64 (foldTo l (j + 1)).1.sum)).far (p := ⟨w1.heap.size + 1, 3, none⟩) (by simp) (.int .i64 (foldTo l (j + 1)).1.ver)
        have hB5 : Below w1.heap.size w1 ((((w4.setCell ⟨w1.heap.size + 1, 0, none⟩ (.int .i64 (foldTo l (j + 1)).1.tag)).setCell ⟨w1.heap.size + 1, 1, none⟩ (.bool (foldTo l (j + 1)).1.closed)).setCell ⟨w1.heap.size + 1, 2, none⟩ (.int .i64 (foldTo l (j + 1)).1.sum)).setCell ⟨w1.heap.size + 1, 3, none⟩ (.int .i64 (foldTo l (j + 1)).1.ver)) := by (repeat (first | with_reducible apply Below.drew | with_reducible refine Below.setCell ?_ (by first | exact Nat.le_refl _ | (simp; done) | (simp; omega) | omega) _ | with_reducible refine Below.alloc ?_ (by first | exact Nat.le_refl _ | (simp; done) | (simp; omega) | omega) _ | with_reducible exact Below.refl _ _ | with_reducible assumption))
        have HZ := Lib.hid (And.intro hB5 (And.intro hS5 hT5))
        clear hB5 hS5 hT5
        have t0 := hT4.cell 0
        have t1 := hT4.cell 1
        have t2 := hT4.cell 2
        have t3 := hT4.cell 3
        have f0 := hT4.frozen 0
        have f1 := hT4.frozen 1
        have f2 := hT4.frozen 2
        have f3 := hT4.frozen 3
        simp [stv] at t0 t1 t2 t3
        have n1 : ¬ g = w1.heap.size + 1 := by omega
        have n2 : ¬ w1.heap.size + 1 = g := by omega
        have hne : ((foldTo l (j + 1)).1.ver != (foldTo l (j + 1)).1.ver) = false := by simp
        clear hB hS hT x0 x1 x2 y0 y1 hbd hb hB4 hS4 hT4
        apply SeqP.nil
        apply LastZ.eff
        · rfl
        go_wp2_with fail
        rw [rounds_succ]
        go_wp2_with fail
        go_roundg (l.length - (j + 1))
        case measure => have hkk := AA.out; omega
        case rel => exact ⟨j + 1, rfl, by omega, by go_num, rfl, HZ.out.1, HZ.out.2.1, HZ.out.2.2⟩
    · obtain rfl : j = l.length := by omega
      obtain rfl := HL.out.1.symm
      have t0 := hT.cell 0
      have t1 := hT.cell 1
      have t2 := hT.cell 2
      have t3 := hT.cell 3
      have s0 := hS.cell 0
      have s1 := hS.cell 1
      have s2 := hS.cell 2
      have s3 := hS.cell 3
      simp [stv] at t0 t1 t2 t3 s0 s1 s2 s3
      have hw2 := below_trans hw1 hB hw1z
      clear hB hS hT
      go_wp2_with fail
      refine (works_any _).mono ?_
      rintro e wz ⟨rfl, hb⟩
      go_wp2_with fail
      go_ret
      exact ⟨rfl, below_trans hw2 hb hw2.size⟩
end Go.Proofs.Ytifeokabecgimaa
