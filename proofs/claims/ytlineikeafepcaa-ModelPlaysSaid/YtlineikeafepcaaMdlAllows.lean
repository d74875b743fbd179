/-
  The walk over a model's Allows.
-/
import Derived.Test.YtlineikeafepcaaMdlGet
set_option linter.unusedSimpArgs false
set_option linter.unusedVariables false
set_option maxRecDepth 100000
namespace Go.Proofs.Ytlineikeafepcaa
open Go Go.RowKit Go.Sq Go.Wd Go.Arch

def ansv (a : Ans) : List Value := [.int .i64 a.1, .int .i64 a.2.1, .int .i64 a.2.2]

set_option maxHeartbeats 4000000 in
theorem allows_any (M : Logs) (s : Int) (a : Ans) (g : Nat) (ss : Nat → SlcE) (w : World) (H : MdlAt w g ss M) (HF : FineM M) :
    Calls Try.prog 24 #[.pointer (some ⟨g, 0, none⟩), .int .i64 s, .agg (ansv a).toArray] w fun e w' => e = .returned (.bool (allowsM M s a)) ∧ Below w.heap.size w w' := by
  obtain ⟨id, cd, vr⟩ := a
  unfold ansv
  dsimp only
  have hz : Below w.heap.size w (w.alloc (.cells #[.int .i64 id, .int .i64 cd, .int .i64 vr] 47)) := (Below.refl _ _).alloc (Nat.le_refl _) _
  have BA := Blk.new w 47 [.int .i64 id, .int .i64 cd, .int .i64 vr]
  have hm := H.keep hz
  have c0 := hm.made
  have HH := Lib.hid (And.intro hz (And.intro BA hm))
  have hgl := H.lt
  have x0 := BA.cell 0
  have x1 := BA.cell 1
  have x2 := BA.cell 2
  simp only [List.getElem?_cons_succ, List.getElem?_cons_zero] at x0 x1 x2
  have FA : ∀ w', Below (w.alloc (.cells #[.int .i64 id, .int .i64 cd, .int .i64 vr] 47)).heap.size (w.alloc (.cells #[.int .i64 id, .int .i64 cd, .int .i64 vr] 47)) w' → w'.cell? ⟨w.heap.size, 0, none⟩ = some (.int .i64 id) ∧ w'.cell? ⟨w.heap.size, 1, none⟩ = some (.int .i64 cd) ∧ w'.cell? ⟨w.heap.size, 2, none⟩ = some (.int .i64 vr) := fun w' hw =>
    ⟨(hw.cell (p := ⟨w.heap.size, 0, none⟩) BA.lt).trans x0, (hw.cell (p := ⟨w.heap.size, 1, none⟩) BA.lt).trans x1, (hw.cell (p := ⟨w.heap.size, 2, none⟩) BA.lt).trans x2⟩
  clear hz BA hm H
  by_cases hc : cd = 4 ∨ cd = 5 ∨ cd = 6 ∨ cd = 7
  case pos =>
    have hd : allowsM M s (id, cd, vr) = decide (vr = 0) := if_pos hc
    rw [hd]
    clear hd
    have hv : decide (vr = 0) = (vr == 0) := rfl
    rw [hv]
    clear hv FA
    rcases hc with rfl | rfl | rfl | rfl
    all_goals
      go_enter Try.func24, Try.ntmps24
      go_wp2_with fail
      go_ret
      exact ⟨rfl, HH.out.1⟩
  case neg =>
    have q4 : (cd == 4) = false := by rw [beq_eq_false_iff_ne]; omega
    have q5 : (cd == 5) = false := by rw [beq_eq_false_iff_ne]; omega
    have q6 : (cd == 6) = false := by rw [beq_eq_false_iff_ne]; omega
    have q7 : (cd == 7) = false := by rw [beq_eq_false_iff_ne]; omega
    have hd : allowsM M s (id, cd, vr) = (if 0 ≤ s ∧ s < 4 then
        match firstIn (M s.toNat) (M s.toNat).length id with
        | some k => decide (((foldS (M s.toNat)).2.getD k noOut).1 = cd) && decide (((foldS (M s.toNat)).2.getD k noOut).2.1 = vr)
        | none => false
      else false) := if_neg hc
    obtain ⟨r, hr⟩ : ∃ r, allowsM M s (id, cd, vr) = r := ⟨_, rfl⟩
    rw [hr] at hd ⊢
    have HV := Lib.hid hd
    clear hd hc hr
    go_enter Try.func24, Try.ntmps24
    go_wp2_with fail
    refine (mnone_any s g _ c0).mono ?_
    rintro e w1 ⟨rfl, rfl⟩
    obtain ⟨hw1, _, M1⟩ := HH.out
    clear HH
    generalize (w.alloc (.cells #[.int .i64 id, .int .i64 cd, .int .i64 vr] 47)) = w1 at *
    have hz1 := hw1.size
    by_cases hs : 0 ≤ s ∧ s < 4
    case neg =>
      rw [show decide (¬ (0 ≤ s ∧ s < 4)) = true from decide_eq_true hs]
      go_wp2_with fail
      go_ret
      exact ⟨ret_bool (by rw [HV.out, if_neg hs]), hw1⟩
    case pos =>
      rw [show decide (¬ (0 ≤ s ∧ s < 4)) = false from decide_eq_false (fun h => h hs)]
      have hv := HV.out
      rw [if_pos hs] at hv
      obtain ⟨S, rfl⟩ := Int.eq_ofNat_of_zero_le hs.1
      have hS4 : S < 4 := by omega
      have hS4i : (S : Int) < 4 := by omega
      rw [show (S : Int).toNat = S from rfl] at hv
      have HV2 := Lib.hid hv
      clear HV hv
      obtain ⟨A, c, s1, k1, k2, E1⟩ := M1.stream hS4
      have hl := (HF S hS4).1
      have HE := Lib.hid E1
      clear hs E1 M1
      go_wp2_with fail
      refine (find_any (M S) A c id _ HE.out (by omega)).mono ?_
      rintro e w2 ⟨rfl, hb⟩
      have hw2 := below_trans hw1 hb hz1
      have HE2 := Lib.hid ((HE.out.below hb).more hb.size)
      have F2 : ∀ w', Below w2.heap.size w2 w' → w'.cell? ⟨w.heap.size, 0, none⟩ = some (.int .i64 id) ∧ w'.cell? ⟨w.heap.size, 1, none⟩ = some (.int .i64 cd) ∧ w'.cell? ⟨w.heap.size, 2, none⟩ = some (.int .i64 vr) := fun w' hw => FA w' (below_trans hb hw hb.size)
      have hz2 := hw2.size
      clear hb HE FA hw1 hz1 s1 c0 x0 x1 x2
      cases hf : firstIn (M S) (M S).length id
      case none =>
        rw [show whereK none = 0 from rfl, show (none : Option Nat).isSome = false from rfl]
        have hv := HV2.out
        rw [hf] at hv
        have HV3 := Lib.hid hv
        clear hv hf
        go_wp2_with fail
        go_ret
        exact ⟨ret_bool (by rw [HV3.out]), hw2⟩
      case some k =>
        have hk := first_lt _ _ _ _ hf
        rw [show whereK (some k) = (k : Int) from rfl, show (some k).isSome = true from rfl]
        have hv := HV2.out
        rw [hf] at hv
        dsimp only at hv
        have HV3 := Lib.hid hv
        clear hv hf HV2
        go_wp2_with fail
        refine (of_any (M S) A c w2 HE2.out (by omega) (fine_wf HF hS4)).mono ?_
        rintro e w3 ⟨v, rfl, hO, hb⟩
        have hw3 := below_trans hw2 hb hz2
        have hfl : (foldS (M S)).2.length = (M S).length := fold_len (M S) (M S).length (Nat.le_refl _)
        obtain ⟨q, cap, oo, so, rfl, ho, hq1, hq2, hq3, hq4, _, d0, d1, d2⟩ := hO.read (show k < (foldS (M S)).2.length by omega)
        rw [hfl]
        have hoo : (foldS (M S)).2.getD k noOut = oo := by rw [List.getD, ho]; rfl
        have hv := HV3.out
        rw [hoo] at hv
        have HV4 := Lib.hid hv
        clear hv HV3
        have F3 : ∀ w', Below w3.heap.size w3 w' → w'.cell? ⟨w.heap.size, 1, none⟩ = some (.int .i64 cd) ∧ w'.cell? ⟨w.heap.size, 2, none⟩ = some (.int .i64 vr) ∧ w'.cell? ⟨q, k * 3, none⟩ = some (.int .i64 oo.1) ∧ w'.cell? ⟨q, k * 3 + 1, none⟩ = some (.int .i64 oo.2.1) := fun w' hw =>
          ⟨(F2 w' (below_trans hb hw hb.size)).2.1, (F2 w' (below_trans hb hw hb.size)).2.2, (hw.cell (p := ⟨q, k * 3, none⟩) hq2).trans d0, (hw.cell (p := ⟨q, k * 3 + 1, none⟩) hq2).trans d1⟩
        have hz3 := hw3.size
        have BS : Blk (w3.alloc (.cells #[.int .i64 0, .bool false, .int .i64 0, .int .i64 0] 40)) w3.heap.size 40 [.int .i64 0, .bool false, .int .i64 0, .int .i64 0] := Blk.new w3 _ _
        have hki : (k : Int) < ((M S).length : Int) := by omega
        clear hb HE2 F2 hw2 hz2 hO hfl ho hoo d0 d1 d2
        go_wp2_with ((with_reducible refine at_list ?_); first | (refine wpList_store_own rfl 40 _ _ rfl _ (stv (foldS (M S)).1) rfl rfl _ _ (BS) state_info rfl (stv_one _) ?_; intro w4 S4 g4))
        have hb4 := below_new g4
        have hw4 := below_trans hw3 hb4 hz3
        have F4 : ∀ w', Below w4.heap.size w4 w' → w'.cell? ⟨w.heap.size, 1, none⟩ = some (.int .i64 cd) ∧ w'.cell? ⟨w.heap.size, 2, none⟩ = some (.int .i64 vr) ∧ w'.cell? ⟨q, k * 3, none⟩ = some (.int .i64 oo.1) ∧ w'.cell? ⟨q, k * 3 + 1, none⟩ = some (.int .i64 oo.2.1) := fun w' hw => F3 w' (below_trans hb4 hw hb4.size)
        clear hb4 g4 S4 BS F3 hw3 hz3
        obtain ⟨oc, ov, oe⟩ := oo
        dsimp only at F4 HV4
        refine wp_region_p ([(0, true), (1, true), (2, true), (3, true), (4, true), (5, true), (6, true), (7, true), (8, true), (9, true), (10, true), (11, true), (12, true), (13, true), (14, true), (15, true), (16, true), (17, true), (18, true)]) (fun w' => Below w4.heap.size w4 w') (by kernel_rfl) rfl (by kernel_rfl) (by kernel_rfl) ((Below.refl _ _).drew) rfl ?_
        intro KP RP TP hKP hTP hTP'
        simp only [pick, nth]
        have hcc : (oc = cd ∧ ov = vr) ∨ (oc = cd ∧ ¬ ov = vr) ∨ (¬ oc = cd ∧ True) := by
          by_cases e1 : oc = cd
          · by_cases e2 : ov = vr
            · exact .inl ⟨e1, e2⟩
            · exact .inr (.inl ⟨e1, e2⟩)
          · exact .inr (.inr ⟨e1, trivial⟩)
        rcases hcc with ⟨e1, e2⟩ | ⟨e1, e2⟩ | ⟨e1, e2⟩
        case' inl =>
          have b1 : (oc == cd) = true := by simpa using e1
          have b2 : (ov == vr) = true := by simpa using e2
          have hr2 := Lib.hid (And.intro (decide_eq_true e1) (decide_eq_true e2))
        case' inr.inl =>
          have b1 : (oc == cd) = true := by simpa using e1
          have b2 : (ov == vr) = false := by simpa using e2
          have hr2 := Lib.hid (And.intro (decide_eq_true e1) (decide_eq_false e2))
        case' inr.inr =>
          have b1 : (oc == cd) = false := by simpa using e1
          have hr2 := Lib.hid (And.intro (decide_eq_false e1) e2)
        all_goals
          clear e1 e2
          go_wp2_with (first
            | (apply SeqP.skip; rfl; simp only [Act.put, List.setIfInBounds_toArray, List.set_cons_zero, List.set_cons_succ])
            | (apply SeqP.call; rfl; rfl; (intro w2 hw; have hw := hTP _ hw; ((obtain ⟨z0, z1, z2, z3⟩ := F4 _ hw)); go_simp; exact ⟨rfl, rfl⟩); (intro w2 hw; have hw := hTP _ hw; ((obtain ⟨z0, z1, z2, z3⟩ := F4 _ hw)); (first | fail)); simp only [Act.put, List.setIfInBounds_toArray, List.set_cons_zero, List.set_cons_succ])
            | (apply SeqP.pure; rfl; (intro w2 hw; have hw := hTP _ hw; ((obtain ⟨z0, z1, z2, z3⟩ := F4 _ hw)); go_simp; with_reducible rfl); simp only [Act.put, List.setIfInBounds_toArray, List.set_cons_zero, List.set_cons_succ])
            | (apply SeqP.split; rfl; rfl; all_goals (intro hc; simp only [hc]; try simp only [beq_iff_eq, decide_eq_true_eq, beq_eq_false_iff_ne, decide_eq_false_iff_not, bne_iff_ne, ne_eq, Bool.not_eq_true', Bool.not_eq_false', Int.not_le, Int.not_lt, bne_eq_false_iff_eq, Bool.or_eq_true, Bool.and_eq_true, Bool.or_eq_false_iff] at hc)))
          apply SeqP.nil
          refine hKP _ _ (hTP' _ ((Below.refl _ _).drew)) ?_
          clear hKP hTP hTP'
          go_wp2_with fail
          go_ret
          exact ⟨ret_bool (by rw [HV4.out, hr2.out.1]; first | (rw [hr2.out.2]; rfl) | rfl), hw4.drew⟩
end Go.Proofs.Ytlineikeafepcaa
