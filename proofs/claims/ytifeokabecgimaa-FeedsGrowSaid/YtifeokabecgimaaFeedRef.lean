/-
  The walk over the document's Items.
-/
import Derived.Test.YtifeokabecgimaaFeedItems
import Derived.Test.YtifeokabecgimaaFoldRef
set_option linter.unusedSimpArgs false
set_option linter.unusedVariables false
set_option maxRecDepth 100000
namespace Go.Proofs.Ytifeokabecgimaa
open Go Go.RowKit Go.Sq Go.Wd Go.Arch

/-- What the loop holds on to. -/
def RJ (w1 w : World) (v : Value) (r : List IA) : Prop := Below w1.heap.size w1 w ∧ Its w w1.heap.size v r
theorem RJ.keep {w1 w w' : World} {v : Value} {r : List IA} (h : RJ w1 w v r) (hb : Below w.heap.size w w') : RJ w1 w' v r := ⟨below_trans h.1 hb h.1.size, h.2.keep hb⟩
theorem RJ.app {w1 w w' : World} {v v' : Value} {r r' : List IA} (h : RJ w1 w v r) (hg : w.grownBy w' v.ownBlock) (hi : Its w' w1.heap.size v' r') : RJ w1 w' v' r' := ⟨Its.below h.1 hg h.2 h.1.size, hi⟩
theorem fits_bad {M : Logs4} {K : Nat} (hK : K < 4) (h : 64 < (M K).length) : ¬ fits4 M := fun hf => by
  obtain ⟨h0, h1, h2, h3⟩ := hf
  obtain rfl | rfl | rfl | rfl : K = 0 ∨ K = 1 ∨ K = 2 ∨ K = 3 := by omega
  all_goals omega

theorem st_info22 : (Try.prog.info? 25).map (·.size) = some 4 := by kernel_rfl
theorem stv_one22 (s : St) : ∀ v ∈ stv s, v.oneCell' = true := by
  intro v hv
  simp only [stv, List.mem_cons, List.not_mem_nil, or_false] at hv
  rcases hv with rfl | rfl | rfl | rfl <;> rfl
theorem wpList_store_own22 {P : Program} {w : World} {ops : Array Oper} {rest : List Oper} {o : Oper} {a : Act} {Q : Exit → Act → World → Prop} (hgd : o.guard = none) (ty : TypeId) (x y : Operand) (ho : o.op = .store ty x y)
    (g : Nat) (cs : List Value) (hx : a.eval x = .pointer (some ⟨g, 0, none⟩)) (hy : a.eval y = .agg cs.toArray) (t : TypeId) (old : List Value) (hg : Blk w g t old)
    (hi : (P.info? ty).map (·.size) = some cs.length) (hold : old.length = cs.length) (h1 : ∀ v ∈ cs, v.oneCell' = true)
    (h : ∀ w', Blk w' g t cs → w.grownBy w' (some g) → wpList P ops Q rest (a.put o.dst undef) w') : wpList P ops Q (o :: rest) a w :=
  wpList_store_row hgd ty x y ho g cs.toArray hx hy t old.toArray hg (by simpa using hi) (by simpa using hold)
    (Array.all_eq_true_iff_forall_mem.2 (fun v hv => h1 v (by simpa using hv)))
    (h _ (hg.row cs) ⟨rfl, rfl, rfl, by simp, fun k _ hk => setRow_other w g k _ (fun e => hk (by rw [e]))⟩)
theorem below_new22 {w w' : World} {o : Obj} (hg : (w.alloc o).grownBy w' (some w.heap.size)) : Below w.heap.size w w' := ((Below.refl _ _).alloc (Nat.le_refl _) o).trans (below_grown2 hg (Nat.le_refl _) (by simp))

set_option maxHeartbeats 8000000 in
theorem ritems_any (M : Logs4) (As : Nat → Option Addr) (cs : Nat → Nat) (feed : List Spt) (A : Option Addr) (c : Nat) (w : World) (HL : Logs4At w As cs M)
    (HF : Gr.Sl spotE w w.heap.size A feed) (hfl : feed.length ≤ 90000) :
    Calls Try.prog 28 #[.slice A feed.length c, .agg (l4v As cs M).toArray] w fun e w' => FeedPost M feed w e w' := by
  have hz : Below w.heap.size w (w.alloc (.cells (l4v As cs M).toArray 60)) := (Below.refl _ _).alloc (Nat.le_refl _) _
  have BB := Blk.new w 60 (l4v As cs M)
  have hl4 : ∀ i, i < 4 → (w.alloc (.cells (l4v As cs M).toArray 60)).cell? ⟨w.heap.size, i, none⟩ = some (.slice (As i) (M i).length (cs i)) := fun i hi => (BB.cell i).trans (l4_at As cs M hi)
  have HW := Lib.hid (And.intro hz (And.intro (HL.keep hz) (And.intro (show Gr.Sl spotE _ _ A feed from HF.keep hz) hl4)))
  have lB := BB.lt
  clear hz HL HF BB hl4
  go_enter Try.func28, Try.ntmps28
  go_wp2_with fail
  generalize (w.alloc (.cells (l4v As cs M).toArray 60)) = w0 at HW lB ⊢
  go_wp2_with fail
  go_loopg [6] 4 (fun q i wr => ∃ (K : Nat), q = 4 - K ∧ K ≤ 4 ∧ i = .int .i64 K ∧ wr = w0 ∧ ∀ i, i < K → (M i).length ≤ 64)
  case atStart => exact ⟨0, rfl, by omega, rfl, rfl, fun i hi => by omega⟩
  case round =>
    obtain ⟨K, hq, hK, rfl, rfl, h64⟩ := hrel
    have AA : Aside (gk = 4 - K) := hq
    clear hq
    by_cases hlt : K < 4
    · have hK4 : (K : Int) < 4 := by omega
      have y0 := HW.out.2.2.2 K hlt
      by_cases hl : 64 < (M K).length
      · have hli : (64 : Int) < ((M K).length : Int) := by omega
        have HN := Lib.hid (show itemsS M feed = none from if_neg (fits_bad hlt hl))
        go_wp2_with fail
        apply ret_of
        · simp only [results, Try.results28]
          go_simp
          with_reducible rfl
        refine ⟨rfl, ?_⟩
        exact .inl ⟨HN.out, rfl, HW.out.1⟩
      · have hli : ¬ (64 : Int) < ((M K).length : Int) := by omega
        go_wp2_with fail
        go_roundg (4 - (K + 1))
        case measure => have hkk := AA.out; omega
        case rel => exact ⟨K + 1, rfl, by omega, by go_num, rfl, fun i hi => by
          by_cases he : i = K
          · subst he; omega
          · exact h64 i (by omega)⟩
    · obtain rfl : K = 4 := by omega
      have hall : itemsS M feed = itemsTo M feed feed.length := if_pos ⟨h64 0 (by omega), h64 1 (by omega), h64 2 (by omega), h64 3 (by omega)⟩
      have HH := Lib.hid (And.intro hall h64)
      clear hall h64
      obtain ⟨w1, rfl⟩ : ∃ z, z = wr := ⟨_, rfl⟩
      go_wp2_with fail
      go_loopg [7, 8] feed.length (fun q v i w3 => ∃ (j : Nat) (r : List IA), q = feed.length - j ∧ j ≤ feed.length ∧ i = .int .i64 j ∧ itemsTo M feed j = some r ∧ RJ w1 w3 v r)
      case atStart => exact ⟨0, [], rfl, by omega, rfl, rfl, Below.refl _ _, Its.nil _ _⟩
      case round =>
        obtain ⟨j, r, hq, hj, rfl, hr, hJ⟩ := hrel
        have BB : Aside (gk = feed.length - j) := hq
        have HJ := Lib.hid (And.intro hJ hr)
        clear hq hr hJ
        by_cases hlt : j < feed.length
        · obtain ⟨b1, o1, x, rfl, hx, hbx, FA⟩ := HW.out.2.2.1.at_ hlt
          obtain ⟨s, i⟩ := x
          have hb0 := HJ.out.1.1
          have p0 : wr.cell? ⟨b1, o1 + j * 2, none⟩ = some (.int .i64 s) := FA wr hb0 0 (by decide)
          have p1 : wr.cell? ⟨b1, o1 + j * 2 + 1, none⟩ = some (.int .i64 i) := FA wr hb0 1 (by decide)
          clear FA hb0
          have hal := (Below.refl wr.heap.size wr).alloc (Nat.le_refl _) (.cells #[.int .i64 s, .int .i64 i] 71)
          have BS := Blk.new wr 71 [.int .i64 s, .int .i64 i]
          have HJ2 := Lib.hid (HJ.out.1.keep hal)
          have hszr := HJ.out.1.1.size
          have HJr := HJ
          by_cases h03 : 0 ≤ s ∧ s < 4
          case neg =>
            have HN := Lib.hid (all_bad (M := M) hx.out (fun hg => h03 ⟨hg.1, hg.2.1⟩))
            have hcc : s < 0 ∨ (¬ s < 0 ∧ 4 ≤ s) := by omega
            clear h03
            have z0 := BS.cell 0
            simp only [List.getElem?_cons_zero] at z0
            rcases hcc with h0 | ⟨h0, h4⟩
            all_goals
              go_wp2_with fail
              apply ret_of
              · simp only [results, Try.results28]
                go_simp
                with_reducible rfl
              refine ⟨rfl, ?_⟩
              exact .inl ⟨by rw [HH.out.1]; exact HN.out, rfl, below_trans HW.out.1 HJ2.out.1 HW.out.1.size⟩
          case pos =>
            obtain ⟨S, rfl⟩ := Int.eq_ofNat_of_zero_le h03.1
            have hS4 : S < 4 := by omega
            have hS0 : ¬ (S : Int) < 0 := by omega
            have hS5 : ¬ (4 : Int) ≤ (S : Int) := by omega
            have hS4i : (S : Int) < 4 := by omega
            clear h03
            have z0 := BS.cell 0
            simp only [List.getElem?_cons_zero] at z0
            go_wp2_with fail
            obtain ⟨W2, hW2⟩ : ∃ z, (wr.alloc (.cells #[.int .i64 (S : Int), .int .i64 i] 71)) = z := ⟨_, rfl⟩
            have HW2 := Lib.hid (And.intro hal (And.intro BS HJ2.out))
            rw [hW2] at HW2 ⊢
            have hpl : wr.heap.size < W2.heap.size := by rw [← hW2]; simp
            clear hal BS HJ2 hW2 z0 p0 p1
            go_loopg [10, 11] j (fun q v i w4 => ∃ (k : Nat), q = j - k ∧ k ≤ j ∧ v = .int .i64 (cntS (feed.take k) S) ∧ i = .int .i64 k ∧ Below W2.heap.size W2 w4)
            case atStart => exact ⟨0, rfl, by omega, rfl, rfl, Below.refl _ _⟩
            case round =>
              obtain ⟨k, hq, hk, rfl, rfl, hb4⟩ := hrel
              have CC : Aside (gk = j - k) := hq
              clear hq
              obtain ⟨W3, rfl⟩ : ∃ z, z = wr := ⟨_, rfl⟩
              by_cases hkj : k < j
              · have hkl : k < feed.length := by omega
                obtain ⟨y, hy⟩ : ∃ y, feed[k]? = some y := ⟨_, List.getElem?_eq_getElem hkl⟩
                have hAt := HW.out.2.2.1
                obtain ⟨b', o', hA', hb', hc'⟩ := hAt (by omega)
                cases hA'
                have hB3 := below_trans HW2.out.2.2.1 hb4 HW2.out.2.2.1.size
                have FA : ∀ w', Below W3.heap.size W3 w' → w'.cell? ⟨b1, o1 + k * 2, none⟩ = some (.int .i64 y.1) := fun w' hw => (hc' k y hy).below (below_trans hB3 hw hB3.size) hb' 0 (by decide)
                have BS3 := HW2.out.2.1.keep hb4
                have hcs := cnt_succ hy S
                have HC := Lib.hid hcs
                have hkn := cnt_le feed k S
                by_cases hys : y.1 = (S : Int)
                · have hyb : ((S : Int) == (S : Int)) = true := by simp
                  rw [hys] at FA
                  rw [if_pos hys] at HC
                  clear hys hcs
                  go_wp2_with fail
                  refine wp_region_p ([(0, true), (1, true), (2, true), (3, true), (4, true), (5, true), (6, true), (7, true)]) (fun w' => Below W3.heap.size W3 w') (by kernel_rfl) rfl (by kernel_rfl) (by kernel_rfl) ((Below.refl _ _).drew) rfl ?_
                  intro KP RP TP hKP hTP hTP'
                  simp only [pick, nth]
                  go_wp2_with (first
                    | (apply SeqP.skip; rfl; simp only [Act.put, List.setIfInBounds_toArray, List.set_cons_zero, List.set_cons_succ])
                    | (apply SeqP.call; rfl; rfl; (intro w2 hw; have hw := hTP _ hw; ((have z1 := FA _ hw; have z0 := (BS3.keep hw).cell 0; simp only [List.getElem?_cons_zero] at z0)); go_simp; exact ⟨rfl, rfl⟩); (intro w2 hw; have hw := hTP _ hw; ((have z1 := FA _ hw; have z0 := (BS3.keep hw).cell 0; simp only [List.getElem?_cons_zero] at z0)); (first | fail)); simp only [Act.put, List.setIfInBounds_toArray, List.set_cons_zero, List.set_cons_succ])
                    | (apply SeqP.pure; rfl; (intro w2 hw; have hw := hTP _ hw; ((have z1 := FA _ hw; have z0 := (BS3.keep hw).cell 0; simp only [List.getElem?_cons_zero] at z0)); go_simp; with_reducible rfl); simp only [Act.put, List.setIfInBounds_toArray, List.set_cons_zero, List.set_cons_succ])
                    | (apply SeqP.split; rfl; rfl; all_goals (intro hc; simp only [hc]; try simp only [beq_iff_eq, decide_eq_true_eq, beq_eq_false_iff_ne, decide_eq_false_iff_not, bne_iff_ne, ne_eq, Bool.not_eq_true', Bool.not_eq_false', Int.not_le, Int.not_lt, bne_eq_false_iff_eq, Bool.or_eq_true, Bool.and_eq_true, Bool.or_eq_false_iff] at hc)))
                  apply SeqP.nil
                  refine hKP _ _ (hTP' _ ((Below.refl _ _).drew)) ?_
                  clear hKP hTP hTP'
                  go_wp2_with fail
                  go_roundg (j - (k + 1))
                  case measure => have hkk := CC.out; omega
                  case rel => exact ⟨k + 1, rfl, by omega, by rw [HC.out]; go_num, by go_num, hb4.drew⟩
                · have hyb : (y.1 == (S : Int)) = false := by simpa using hys
                  rw [if_neg hys, Nat.add_zero] at HC
                  clear hys hcs
                  go_wp2_with fail
                  refine wp_region_p ([(0, true), (1, true), (2, true), (3, true), (4, true), (5, true), (6, true), (7, true)]) (fun w' => Below W3.heap.size W3 w') (by kernel_rfl) rfl (by kernel_rfl) (by kernel_rfl) ((Below.refl _ _).drew) rfl ?_
                  intro KP RP TP hKP hTP hTP'
                  simp only [pick, nth]
                  go_wp2_with (first
                    | (apply SeqP.skip; rfl; simp only [Act.put, List.setIfInBounds_toArray, List.set_cons_zero, List.set_cons_succ])
                    | (apply SeqP.call; rfl; rfl; (intro w2 hw; have hw := hTP _ hw; ((have z1 := FA _ hw; have z0 := (BS3.keep hw).cell 0; simp only [List.getElem?_cons_zero] at z0)); go_simp; exact ⟨rfl, rfl⟩); (intro w2 hw; have hw := hTP _ hw; ((have z1 := FA _ hw; have z0 := (BS3.keep hw).cell 0; simp only [List.getElem?_cons_zero] at z0)); (first | fail)); simp only [Act.put, List.setIfInBounds_toArray, List.set_cons_zero, List.set_cons_succ])
                    | (apply SeqP.pure; rfl; (intro w2 hw; have hw := hTP _ hw; ((have z1 := FA _ hw; have z0 := (BS3.keep hw).cell 0; simp only [List.getElem?_cons_zero] at z0)); go_simp; with_reducible rfl); simp only [Act.put, List.setIfInBounds_toArray, List.set_cons_zero, List.set_cons_succ])
                    | (apply SeqP.split; rfl; rfl; all_goals (intro hc; simp only [hc]; try simp only [beq_iff_eq, decide_eq_true_eq, beq_eq_false_iff_ne, decide_eq_false_iff_not, bne_iff_ne, ne_eq, Bool.not_eq_true', Bool.not_eq_false', Int.not_le, Int.not_lt, bne_eq_false_iff_eq, Bool.or_eq_true, Bool.and_eq_true, Bool.or_eq_false_iff] at hc)))
                  apply SeqP.nil
                  refine hKP _ _ (hTP' _ ((Below.refl _ _).drew)) ?_
                  clear hKP hTP hTP'
                  go_wp2_with fail
                  go_roundg (j - (k + 1))
                  case measure => have hkk := CC.out; omega
                  case rel => exact ⟨k + 1, rfl, by omega, by rw [HC.out, Nat.add_zero], by go_num, hb4.drew⟩
              · obtain rfl : k = j := by omega
                clear hkj
                have hB3 := below_trans HW2.out.2.2.1 hb4 HW2.out.2.2.1.size
                have BS3 := HW2.out.2.1.keep hb4
                have HJ3 := Lib.hid (HW2.out.2.2.keep hb4)
                have FL : ∀ w', Below w1.heap.size w1 w' → w'.cell? ⟨w.heap.size, S, none⟩ = some (.slice (As S) (M S).length (cs S)) := fun w' hw => (hw.cell (p := ⟨w.heap.size, S, none⟩) lB).trans (HW.out.2.2.2 S hS4)
                have hz3 := hb4.size
                clear hb4
                by_cases hg : i = cntS (feed.take k) S ∧ i < ((M S).length : Int)
                case neg =>
                  have HN := Lib.hid (all_bad (M := M) hx.out (fun h => hg ⟨h.2.2.1, h.2.2.2⟩))
                  have hcc : i ≠ cntS (feed.take k) S ∨ (i = cntS (feed.take k) S ∧ ((M S).length : Int) ≤ i) := by
                    by_cases h1 : i = cntS (feed.take k) S
                    · exact .inr ⟨h1, by by_cases h2 : i < ((M S).length : Int); exact absurd ⟨h1, h2⟩ hg; omega⟩
                    · exact .inl h1
                  clear hg
                  rcases hcc with hi | ⟨rfl, hi⟩
                  case' inl =>
                    have hne : (i != (cntS (feed.take k) S : Int)) = true := by simpa using hi
                    clear hi
                    go_wp2_with fail
                    refine wp_region_p ([(0, true), (1, true), (2, true), (3, true), (4, true), (5, true), (6, true), (7, true), (8, true), (9, true), (10, true), (11, true), (12, true), (13, true)]) (fun w' => Below W3.heap.size W3 w') (by kernel_rfl) rfl (by kernel_rfl) (by kernel_rfl) ((Below.refl _ _).drew) rfl ?_
                    intro KP RP TP hKP hTP hTP'
                    simp only [pick, nth]
                    go_wp2_with (first
                      | (apply SeqP.skip; rfl; simp only [Act.put, List.setIfInBounds_toArray, List.set_cons_zero, List.set_cons_succ])
                      | (apply SeqP.call; rfl; rfl; (intro w2 hw; have hw := hTP _ hw; ((have z0 := (BS3.keep hw).cell 0; have z1 := (BS3.keep hw).cell 1; simp only [List.getElem?_cons_zero, List.getElem?_cons_succ] at z0 z1)); go_simp; exact ⟨rfl, rfl⟩); (intro w2 hw; have hw := hTP _ hw; ((have z0 := (BS3.keep hw).cell 0; have z1 := (BS3.keep hw).cell 1; simp only [List.getElem?_cons_zero, List.getElem?_cons_succ] at z0 z1)); (first | fail)); simp only [Act.put, List.setIfInBounds_toArray, List.set_cons_zero, List.set_cons_succ])
                      | (apply SeqP.pure; rfl; (intro w2 hw; have hw := hTP _ hw; ((have z0 := (BS3.keep hw).cell 0; have z1 := (BS3.keep hw).cell 1; simp only [List.getElem?_cons_zero, List.getElem?_cons_succ] at z0 z1)); go_simp; with_reducible rfl); simp only [Act.put, List.setIfInBounds_toArray, List.set_cons_zero, List.set_cons_succ])
                      | (apply SeqP.split; rfl; rfl; all_goals (intro hc; simp only [hc]; try simp only [beq_iff_eq, decide_eq_true_eq, beq_eq_false_iff_ne, decide_eq_false_iff_not, bne_iff_ne, ne_eq, Bool.not_eq_true', Bool.not_eq_false', Int.not_le, Int.not_lt, bne_eq_false_iff_eq, Bool.or_eq_true, Bool.and_eq_true, Bool.or_eq_false_iff] at hc)))
                  case' inr =>
                    have hne : ((cntS (feed.take k) S : Int) != (cntS (feed.take k) S : Int)) = false := by simp
                    go_wp2_with fail
                    refine wp_region_p ([(0, true), (1, true), (2, true), (3, true), (4, true), (5, true), (6, true), (7, true), (8, true), (9, true), (10, true), (11, true), (12, true), (13, true)]) (fun w' => Below W3.heap.size W3 w') (by kernel_rfl) rfl (by kernel_rfl) (by kernel_rfl) ((Below.refl _ _).drew) rfl ?_
                    intro KP RP TP hKP hTP hTP'
                    simp only [pick, nth]
                    go_wp2_with (first
                      | (apply SeqP.skip; rfl; simp only [Act.put, List.setIfInBounds_toArray, List.set_cons_zero, List.set_cons_succ])
                      | (apply SeqP.call; rfl; rfl; (intro w2 hw; have hw := hTP _ hw; ((have z0 := (BS3.keep hw).cell 0; have z1 := (BS3.keep hw).cell 1; simp only [List.getElem?_cons_zero, List.getElem?_cons_succ] at z0 z1; have z2 := FL _ (below_trans hB3 hw hB3.size))); go_simp; exact ⟨rfl, rfl⟩); (intro w2 hw; have hw := hTP _ hw; ((have z0 := (BS3.keep hw).cell 0; have z1 := (BS3.keep hw).cell 1; simp only [List.getElem?_cons_zero, List.getElem?_cons_succ] at z0 z1; have z2 := FL _ (below_trans hB3 hw hB3.size))); (first | fail)); simp only [Act.put, List.setIfInBounds_toArray, List.set_cons_zero, List.set_cons_succ])
                      | (apply SeqP.pure; rfl; (intro w2 hw; have hw := hTP _ hw; ((have z0 := (BS3.keep hw).cell 0; have z1 := (BS3.keep hw).cell 1; simp only [List.getElem?_cons_zero, List.getElem?_cons_succ] at z0 z1; have z2 := FL _ (below_trans hB3 hw hB3.size))); go_simp; with_reducible rfl); simp only [Act.put, List.setIfInBounds_toArray, List.set_cons_zero, List.set_cons_succ])
                      | (apply SeqP.split; rfl; rfl; all_goals (intro hc; simp only [hc]; try simp only [beq_iff_eq, decide_eq_true_eq, beq_eq_false_iff_ne, decide_eq_false_iff_not, bne_iff_ne, ne_eq, Bool.not_eq_true', Bool.not_eq_false', Int.not_le, Int.not_lt, bne_eq_false_iff_eq, Bool.or_eq_true, Bool.and_eq_true, Bool.or_eq_false_iff] at hc)))
                  all_goals
                    apply SeqP.nil
                    refine hKP _ _ (hTP' _ ((Below.refl _ _).drew)) ?_
                    clear hKP hTP hTP'
                    go_wp2_with fail
                    apply ret_of
                    · simp only [results, Try.results28]
                      go_simp
                      with_reducible rfl
                    refine ⟨rfl, ?_⟩
                    exact .inl ⟨by rw [HH.out.1]; exact HN.out, rfl, below_trans HW.out.1 hB3.drew HW.out.1.size⟩
                case pos =>
                  obtain ⟨hi, hl⟩ := hg
                  obtain ⟨I, hI⟩ : ∃ z, cntS (feed.take k) S = z := ⟨_, rfl⟩
                  rw [hI] at hi ⊢
                  subst hi
                  have hIl : I < (M S).length := by omega
                  have hIl2 : ¬ ((M S).length : Int) ≤ (I : Int) := by omega
                  have hII : ((I : Int) != (I : Int)) = false := by simp
                  have hgood : goodS M feed k ((S : Int), (I : Int)) := ⟨Int.natCast_nonneg S, hS4i, by show (I : Int) = cntS (feed.take k) S; rw [hI], hl⟩
                  have HT := Lib.hid (to_succ HJ.out.2 hx.out hgood)
                  have hs4 := HH.out.2 S hS4
                  clear hgood hI
                  go_wp2_with fail
                  refine wp_region_p ([(0, true), (1, true), (2, true), (3, true), (4, true), (5, true), (6, true), (7, true), (8, true), (9, true), (10, true), (11, true), (12, true), (13, true)]) (fun w' => Below W3.heap.size W3 w') (by kernel_rfl) rfl (by kernel_rfl) (by kernel_rfl) ((Below.refl _ _).drew) rfl ?_
                  intro KP RP TP hKP hTP hTP'
                  simp only [pick, nth]
                  go_wp2_with (first
                    | (apply SeqP.skip; rfl; simp only [Act.put, List.setIfInBounds_toArray, List.set_cons_zero, List.set_cons_succ])
                    | (apply SeqP.call; rfl; rfl; (intro w2 hw; have hw := hTP _ hw; ((have z0 := (BS3.keep hw).cell 0; have z1 := (BS3.keep hw).cell 1; simp only [List.getElem?_cons_zero, List.getElem?_cons_succ] at z0 z1; have z2 := FL _ (below_trans hB3 hw hB3.size))); go_simp; exact ⟨rfl, rfl⟩); (intro w2 hw; have hw := hTP _ hw; ((have z0 := (BS3.keep hw).cell 0; have z1 := (BS3.keep hw).cell 1; simp only [List.getElem?_cons_zero, List.getElem?_cons_succ] at z0 z1; have z2 := FL _ (below_trans hB3 hw hB3.size))); (first | fail)); simp only [Act.put, List.setIfInBounds_toArray, List.set_cons_zero, List.set_cons_succ])
                    | (apply SeqP.pure; rfl; (intro w2 hw; have hw := hTP _ hw; ((have z0 := (BS3.keep hw).cell 0; have z1 := (BS3.keep hw).cell 1; simp only [List.getElem?_cons_zero, List.getElem?_cons_succ] at z0 z1; have z2 := FL _ (below_trans hB3 hw hB3.size))); go_simp; with_reducible rfl); simp only [Act.put, List.setIfInBounds_toArray, List.set_cons_zero, List.set_cons_succ])
                    | (apply SeqP.split; rfl; rfl; all_goals (intro hc; simp only [hc]; try simp only [beq_iff_eq, decide_eq_true_eq, beq_eq_false_iff_ne, decide_eq_false_iff_not, bne_iff_ne, ne_eq, Bool.not_eq_true', Bool.not_eq_false', Int.not_le, Int.not_lt, bne_eq_false_iff_eq, Bool.or_eq_true, Bool.and_eq_true, Bool.or_eq_false_iff] at hc)))
                  apply SeqP.nil
                  refine hKP _ _ (hTP' _ ((Below.refl _ _).drew)) ?_
                  clear hKP hTP hTP'
                  have z0 := BS3.drew.cell 0
                  simp only [List.getElem?_cons_zero] at z0
                  have z2 := FL _ hB3.drew
                  go_wp2_with fail
                  have hL := HW.out.2.1.keep hB3.drew
                  refine (rof_any (M S) (As S) (cs S) W3.drew (hL S hS4).2.2.2 (by omega) (hL S hS4).2.1 (hL S hS4).2.2.1).mono ?_
                  rintro e w4 ⟨vo, rfl, hO, hb⟩
                  obtain ⟨q, cap, o, so, rfl, ho, hqB, hqlt, hc1, hc2, hE, d0, d1, d2⟩ := hO.read (k := I) (by rw [show (foldS (M S)).2.length = (M S).length from fold_len _ _ (Nat.le_refl _)]; exact hIl)
                  rw [show (foldS (M S)).2.length = (M S).length from fold_len _ _ (Nat.le_refl _)]
                  obtain ⟨b2, o2, e, hAS, he, FE⟩ := (HW.out.2.1 S hS4).2.2.2.at_ hIl
                  dsimp only at hAS
                  have hitem : itemA M ((S : Int), (I : Int)) = (((S : Int), (I : Int)), ordOf e, o) := by
                    unfold itemA
                    rw [show ((S : Int), (I : Int)).1.toNat = S from rfl, show ((S : Int), (I : Int)).2.toNat = I from rfl, List.getD, List.getD, he.out, ho]
                    rfl
                  have hto := HT.out
                  rw [hitem] at hto
                  have HT2 := Lib.hid hto
                  rw [hAS] at FL
                  have hb3 : Below W3.heap.size W3 w4 := (Below.refl _ _).drew.trans hb
                  have hz4 := hb3.size
                  have BX : Blk (w4.alloc (.cells #[.int .i64 0, .bool false, .int .i64 0, .int .i64 0] 25)) w4.heap.size 25 [.int .i64 0, .bool false, .int .i64 0, .int .i64 0] := Blk.new w4 _ _
                  have HE4 := Lib.hid hE.toC.any
                  have HJ4 := Lib.hid (HJ3.out.keep hb3)
                  have hB4 := below_trans hB3 hb3 hB3.size
                  have BS4 := BS3.keep hb3
                  have hcap : cap ≤ 9223372036854775807 := by simp only [maxLen] at hc2; omega
                  have hc1' : (M S).length ≤ cap := by rw [show (foldS (M S)).2.length = (M S).length from fold_len _ _ (Nat.le_refl _)] at hc1; exact hc1
                  clear hto hitem HT hO ho he hAS hL z0 z2 hb3 hb HJ3 BS3 hB3 hc2 hc1
                  go_wp2_with ((with_reducible refine at_list ?_); first | (refine wpList_store_own22 rfl 25 _ _ rfl _ (stv (foldS (M S)).1) rfl rfl _ _ (BX) st_info22 rfl (stv_one22 _) ?_; intro w5 S5 g5))
                  have hb5 := below_new22 g5
                  have HJ5 := Lib.hid (HJ4.out.keep hb5)
                  have HE5 := Lib.hid (HE4.out.pure hb5)
                  have hB5 := below_trans hB4 hb5 hB4.size
                  have BS5 := BS4.keep hb5
                  have FOc : ∀ w', Below w5.heap.size w5 w' → w'.cell? ⟨q, I * 3, none⟩ = some (.int .i64 o.1) ∧ w'.cell? ⟨q, I * 3 + 1, none⟩ = some (.int .i64 o.2.1) ∧ w'.cell? ⟨q, I * 3 + 2, none⟩ = some (.slice so.1 so.2.1 so.2.2) := fun w' hw => by
                    have h := below_trans hb5 hw hb5.size
                    exact ⟨(h.cell (p := ⟨q, I * 3, none⟩) hqlt).trans d0, (h.cell (p := ⟨q, I * 3 + 1, none⟩) hqlt).trans d1, (h.cell (p := ⟨q, I * 3 + 2, none⟩) hqlt).trans d2⟩
                  have hown : ∀ g, u7.ownBlock = some g → g < wr.heap.size := fun g hg => (HJr.out.1.2.lt g hg).2
                  have hrl := (to_len HJr.out.2).1
                  obtain ⟨v', w7, hrun, hI7, hg7⟩ := Its.snoc (w := w5.drew) (HJ5.out.2.keep (Below.refl _ _).drew) (((S : Int), (I : Int)), ordOf e, o) so ((HE5.out.own (own := u7.ownBlock) (fun g hg h => by
                    have h1 := hown g h.symm
                    rcases hE with ⟨_, h⟩ | ⟨g', k', a', h, _, h2, _⟩
                    · rw [h] at hg; cases hg
                    · rw [h] at hg
                      cases hg
                      have : W3.heap.size + 2 ≤ g := h2
                      omega)).pure (Below.refl _ _).drew) (by omega) (by have := HJ5.out.1.size; exact this) (H := w5.heap.size) rfl 56
                  have HJ7 := Lib.hid ((HJ5.out.keep (Below.refl _ _).drew).app hg7 hI7)
                  have HG7 := Lib.hid hg7
                  clear hI7 hg7 BX g5 S5 hb5 BS4 hB4 HJ4 HE4 d0 d1 d2
                  refine wp_region_p ([(0, true), (1, true), (2, true), (3, true), (4, true), (5, true), (6, true), (7, true), (8, true), (9, true), (10, true), (11, true), (12, true), (13, true), (14, true), (15, true), (16, true), (17, false), (18, false), (19, true)]) (fun w' => Below w1.heap.size w1 w' ∧ Blk w' wr.heap.size 71 [.int .i64 (S : Int), .int .i64 (I : Int)] ∧ w'.cell? ⟨q, I * 3, none⟩ = some (.int .i64 o.1) ∧ w'.cell? ⟨q, I * 3 + 1, none⟩ = some (.int .i64 o.2.1) ∧ w'.cell? ⟨q, I * 3 + 2, none⟩ = some (.slice so.1 so.2.1 so.2.2)) (by kernel_rfl) rfl (by kernel_rfl) (by kernel_rfl) (⟨hB5.drew, BS5.drew, FOc _ (Below.refl _ _).drew⟩) rfl ?_
                  intro KP RP TP hKP hTP hTP'
                  simp only [pick, nth]
                  go_wp2_with (first
                    | (apply SeqP.skip; rfl; simp only [Act.put, List.setIfInBounds_toArray, List.set_cons_zero, List.set_cons_succ])
                    | (apply SeqP.call; rfl; rfl; (intro w2 hw; have hw := hTP _ hw; ((obtain ⟨q1, q2, z4, z5, z6⟩ := hw; have z0 := q2.cell 0; have z1 := q2.cell 1; simp only [List.getElem?_cons_succ, List.getElem?_cons_zero] at z0 z1; have z3 := FL _ q1; obtain ⟨y0, y1, y2, y3, y4, y5⟩ := FE _ q1)); go_simp; exact ⟨rfl, rfl⟩); (intro w2 hw; have hw := hTP _ hw; ((obtain ⟨q1, q2, z4, z5, z6⟩ := hw; have z0 := q2.cell 0; have z1 := q2.cell 1; simp only [List.getElem?_cons_succ, List.getElem?_cons_zero] at z0 z1; have z3 := FL _ q1; obtain ⟨y0, y1, y2, y3, y4, y5⟩ := FE _ q1)); (first | fail)); simp only [Act.put, List.setIfInBounds_toArray, List.set_cons_zero, List.set_cons_succ])
                    | (apply SeqP.pure; rfl; (intro w2 hw; have hw := hTP _ hw; ((obtain ⟨q1, q2, z4, z5, z6⟩ := hw; have z0 := q2.cell 0; have z1 := q2.cell 1; simp only [List.getElem?_cons_succ, List.getElem?_cons_zero] at z0 z1; have z3 := FL _ q1; obtain ⟨y0, y1, y2, y3, y4, y5⟩ := FE _ q1)); go_simp; with_reducible rfl); simp only [Act.put, List.setIfInBounds_toArray, List.set_cons_zero, List.set_cons_succ])
                    | (apply SeqP.split; rfl; rfl; all_goals (intro hc; simp only [hc]; try simp only [beq_iff_eq, decide_eq_true_eq, beq_eq_false_iff_ne, decide_eq_false_iff_not, bne_iff_ne, ne_eq, Bool.not_eq_true', Bool.not_eq_false', Int.not_le, Int.not_lt, bne_eq_false_iff_eq, Bool.or_eq_true, Bool.and_eq_true, Bool.or_eq_false_iff] at hc)))
                  apply SeqP.eff
                  · rfl
                  intro KE hKE
                  go_wp2_with fail
                  refine hKE _ _ (hTP' _ ⟨hB5.drew.alloc hB5.size _, BS5.drew.alloc _, FOc _ ((Below.refl _ _).drew.alloc (Nat.le_refl _) _)⟩) ?_
                  clear hKE KE
                  apply SeqP.eff
                  · rfl
                  intro KE hKE
                  refine oper_app (by rfl) (by rfl) (by rfl) hrun ?_
                  have hg7 := HG7.out
                  have BS7 := BS5.drew.grown hg7 (fun e => by have := hown _ e.symm; omega)
                  have hq7 : w7.heap[q]? = w5.heap[q]? := hg7.block q (by show q < w5.heap.size; have := (FOc w5 (Below.refl _ _)); have h9 := World.block_lt_of_cell? _ _ this.1; exact h9) (fun e => by have := hown _ e.symm; have h8 : W3.heap.size + 2 ≤ q := hqB; omega)
                  have hC : ∀ jj, w7.cell? ⟨q, jj, none⟩ = w5.cell? ⟨q, jj, none⟩ := fun jj => World.cell?_of_block (a := ⟨q, jj, none⟩) hq7
                  have FO7 := FOc w5 (Below.refl _ _)
                  rw [← hC, ← hC, ← hC] at FO7
                  refine hKE _ _ (hTP' _ ⟨HJ7.out.1, BS7, FO7⟩) ?_
                  clear hKE KE hrun
                  go_wp2_with (first
                    | (apply SeqP.skip; rfl; simp only [Act.put, List.setIfInBounds_toArray, List.set_cons_zero, List.set_cons_succ])
                    | (apply SeqP.call; rfl; rfl; (intro w2 hw; have hw := hTP _ hw; (skip); go_simp; exact ⟨rfl, rfl⟩); (intro w2 hw; have hw := hTP _ hw; (skip); (first | fail)); simp only [Act.put, List.setIfInBounds_toArray, List.set_cons_zero, List.set_cons_succ])
                    | (apply SeqP.pure; rfl; (intro w2 hw; have hw := hTP _ hw; (skip); go_simp; with_reducible rfl); simp only [Act.put, List.setIfInBounds_toArray, List.set_cons_zero, List.set_cons_succ])
                    | (apply SeqP.split; rfl; rfl; all_goals (intro hc; simp only [hc]; try simp only [beq_iff_eq, decide_eq_true_eq, beq_eq_false_iff_ne, decide_eq_false_iff_not, bne_iff_ne, ne_eq, Bool.not_eq_true', Bool.not_eq_false', Int.not_le, Int.not_lt, bne_eq_false_iff_eq, Bool.or_eq_true, Bool.and_eq_true, Bool.or_eq_false_iff] at hc)))
                  apply SeqP.nil
                  refine hKP _ _ (hTP' _ (⟨HJ7.out.1, BS7, FO7⟩)) ?_
                  clear hKP hTP hTP'
                  clear BS7 FO7 hC hq7 hg7 FOc FE FL BS5 hB5
                  go_wp2_with fail
                  go_roundg (feed.length - (k + 1))
                  case measure => have hkk := BB.out; omega
                  case rel => exact ⟨k + 1, _, rfl, by omega, by go_num, HT2.out, HJ7.out⟩
        · obtain rfl : j = feed.length := by omega
          go_wp2_with fail
          apply ret_of
          · simp only [results, Try.results28]
            go_simp
            with_reducible rfl
          refine ⟨rfl, ?_⟩
          exact .inr ⟨r, _, by rw [HH.out.1]; exact HJ.out.2, rfl, HJ.out.1.2.base HW.out.1.size, below_trans HW.out.1 HJ.out.1.1 HW.out.1.size⟩
end Go.Proofs.Ytifeokabecgimaa
