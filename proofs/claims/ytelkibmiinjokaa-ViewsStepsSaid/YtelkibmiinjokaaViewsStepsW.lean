/-
  The walk over the statement 'ViewsSteps'.
-/
import Derived.Test.YtelkibmiinjokaaVLives
import Derived.Test.YtelkibmiinjokaaSeqT
set_option linter.unusedSimpArgs false
set_option linter.unusedVariables false
set_option maxRecDepth 100000
namespace Go.Proofs.Ytelkibmiinjokaa
open Go Go.RowKit Go.Sq Go.Wd Go.Arch

/-- One continuation for all leaves, with one letter. -/
theorem merge1 {G : Prop} (Inv : Nat → World → Prop) (K : Act → World → Prop) {F : Nat → Act} (h1 : (∀ g w', Inv g w' → K (F g) w') → G) (h2 : ∀ g w', Inv g w' → K (F g) w') : G := h1 h2

theorem errOfTot (o : Option Tot) : (totR o).2 = 0 ∨ (totR o).2 = 2 := by cases o <;> simp [totR]

set_option maxHeartbeats 8000000 in
theorem viewsSteps_walk (l : List Itm) (A : Option Addr) (c : Nat) (w : World) (hi : Items w w.heap.size A l) (hc : l.length ≤ c) (hc2 : c ≤ 9223372036854775807) :
    Calls Try.prog 13 #[.slice A l.length c] w fun e w' => e = .returned (.bool true) ∧ Below w.heap.size w w' := by
  have hw := Below.refl w.heap.size w
  have HE := Lib.hid hi
  clear hi
  go_enter Try.func13, Try.ntmps13
  go_wp2_with fail
  refine (beyond_any l A c _ HE.out hc hc2).mono ?_
  rintro e w1 ⟨b, rfl, hb, hl⟩
  have hw1 := hb
  clear hb
  cases b with
  | true =>
    go_wp2_with fail
    refine (lives_any _).mono ?_
    rintro e wz ⟨rfl, hb⟩
    go_wp2_with fail
    go_ret
    exact ⟨rfl, below_trans hw1 hb hw1.size⟩
  | false =>
    have h200 := hl rfl
    have hz1 := hw1.size
    have H0 : Below w.heap.size w (w1.alloc (.cells (totv tot0).toArray 51)) ∧ Blk (w1.alloc (.cells (totv tot0).toArray 51)) w1.heap.size 51 (totv tot0) := ⟨hw1.alloc hz1 _, Blk.new _ _ _⟩
    have HH := Lib.hid H0
    clear H0 hl
    go_wp2_with fail
    go_loopg [4] l.length (fun q i wr => ∃ (j : Nat) (t : Tot), q = l.length - j ∧ j ≤ l.length ∧ i = .int .i64 j ∧ atT (l.take j) = some t ∧ Below w.heap.size w wr ∧ Blk wr w1.heap.size 51 (totv t))
    case atStart => exact ⟨0, tot0, rfl, by omega, rfl, rfl, HH.out⟩
    case round =>
      obtain ⟨j, t, hq, hj, rfl, ht, hB, B1⟩ := hrel
      have AA : Aside (gk = l.length - j ∧ atT (l.take j) = some t) := ⟨hq, ht⟩
      clear hq ht
      by_cases hlt : j < l.length
      · obtain ⟨b1, o1, x, rfl, hx, FA, HV⟩ := HE.out.at_ hlt
        have hS := atT_take hx.out
        rw [AA.out.2] at hS
        have hK : atK l ((j : Int) + 1) = vstepT t x := by
          unfold atK
          rw [if_neg (by omega), show ((j : Int) + 1).toNat = j + 1 by omega]
          exact hS
        have hS' : atT (l.take (j + 1)) = vstepT t x := hS
        have HS := Lib.hid (And.intro hS' hK)
        have hz := hB.size
        have hjc : j ≤ c := by omega
        clear hx hS hS' hK
        go_wp2_with fail
        refine wp_region_t (.quiet 0 (.quiet 1 (.quiet 2 (.quiet 3 (.quiet 4 (.two 5 9 (.quiet 6 (.quiet 7 (.quiet 8 (.one 9 (.one 10 (.quiet 11 .done)))))) (.one 5 (.quiet 6 (.quiet 7 (.quiet 8 (.one 10 (.quiet 11 .done)))))))))))) (fun w' => Below w.heap.size w w' ∧ Blk w' w1.heap.size 51 (totv t)) (by kernel_rfl) (by kernel_rfl) (by kernel_rfl) (by kernel_rfl) (⟨hB.drew, B1.drew⟩) rfl ?_
        intro KP RP TP hKP hTP hTP'
        simp only [Sch.fill, nth]
        apply merge1 (Inv := fun g w' => Below w.heap.size w w' ∧ Blk w' w1.heap.size 51 (totv t) ∧ Blk w' g 51 (totv (totR (vstepT t x)).1) ∧ g ≠ w1.heap.size) (K := KP)
        · intro HK
          go_wp2_with (first
            | (apply SeqT.skip; rfl; simp only [Act.put, List.setIfInBounds_toArray, List.set_cons_zero, List.set_cons_succ])
            | (apply SeqT.pure; rfl; (intro w2 hw; have hw := hTP _ hw; exact exec_load_blk 51 _ rfl _ rfl _ _ (hw.2) _ Try.underlying51 rfl tot_info); simp only [Act.put, List.setIfInBounds_toArray, List.set_cons_zero, List.set_cons_succ])
            | (apply SeqT.pure; rfl; (intro w2 hw; have hw := hTP _ hw; ((obtain ⟨q0, q1, q2, q3, q4, q5, q6, q7, q8, q9⟩ := FA _ hw.1)); go_simp; with_reducible rfl); simp only [Act.put, List.setIfInBounds_toArray, List.set_cons_zero, List.set_cons_succ]))
          apply SeqT.two
          · apply EffT.go
            · rfl
            intro KE hKE
            go_wp2_with fail
            refine (step_any t x _ ((HV.out.below hB.drew).more hz)).mono ?_
            rintro e' w3 ⟨rfl, hb⟩
            have hB3 := below_trans hB.drew hb hz
            have C1 := B1.drew.keep hb
            refine hKE _ _ (hTP' _ ⟨hB3, C1⟩) ?_
            clear hKE KE hb
            go_wp2_with (first
              | (apply SeqT.skip; rfl; simp only [Act.put, List.setIfInBounds_toArray, List.set_cons_zero, List.set_cons_succ])
              | (apply SeqT.pure; rfl; (intro w2 hw; have hw := hTP _ hw; exact exec_load_blk 51 _ rfl _ rfl _ _ (hw.2) _ Try.underlying51 rfl tot_info); simp only [Act.put, List.setIfInBounds_toArray, List.set_cons_zero, List.set_cons_succ])
              | (apply SeqT.pure; rfl; (intro w2 hw; have hw := hTP _ hw; (skip); go_simp; with_reducible rfl); simp only [Act.put, List.setIfInBounds_toArray, List.set_cons_zero, List.set_cons_succ]))
            apply SeqT.one
            apply EffT.go
            · rfl
            intro KE hKE
            go_wp2_with fail
            have Z := Blk.new w3 51 (totv tot0)
            have hz3 := hB3.size
            have hBa := hB3.alloc hz3 (.cells (totv tot0).toArray 51)
            have Ca := C1.alloc (.cells (totv tot0).toArray 51)
            have hne : w3.heap.size ≠ w1.heap.size := by have := C1.lt; omega
            refine hKE _ _ (hTP' _ ⟨hBa, Ca⟩) ?_
            clear hKE KE
            apply SeqT.one
            apply EffT.go
            · rfl
            intro KE hKE
            refine wp_store_blk 51 _ _ rfl _ (totv _) rfl rfl _ _ Z tot_info rfl (totv_one _) ?_
            intro w8 B8 hb8 hk8
            have hB8 := hBa.trans (hb8 _ hz3)
            have C8 := hk8 _ _ _ hne.symm Ca
            refine hKE _ _ (hTP' _ ⟨hB8, C8⟩) ?_
            clear hKE KE
            go_wp2_with (first
              | (apply SeqT.skip; rfl; simp only [Act.put, List.setIfInBounds_toArray, List.set_cons_zero, List.set_cons_succ])
              | (apply SeqT.pure; rfl; (intro w2 hw; have hw := hTP _ hw; exact exec_load_blk 51 _ rfl _ rfl _ _ (hw.2) _ Try.underlying51 rfl tot_info); simp only [Act.put, List.setIfInBounds_toArray, List.set_cons_zero, List.set_cons_succ])
              | (apply SeqT.pure; rfl; (intro w2 hw; have hw := hTP _ hw; (skip); go_simp; with_reducible rfl); simp only [Act.put, List.setIfInBounds_toArray, List.set_cons_zero, List.set_cons_succ]))
            apply SeqT.done
            clear Z hBa Ca hb8 hk8 hz3
            generalize w3.heap.size = gg at B8 hne ⊢
            exact HK gg _ ⟨hB8, C8, B8, hne⟩
          · have Z := Blk.new wr.drew 51 (totv tot0)
            have hBa := hB.drew.alloc hz (.cells (totv tot0).toArray 51)
            have Ca := B1.drew.alloc (.cells (totv tot0).toArray 51)
            have hne : wr.heap.size ≠ w1.heap.size := by have := B1.lt; omega
            apply EffT.go
            · rfl
            intro KE hKE
            go_wp2_with fail
            refine hKE _ _ (hTP' _ ⟨hBa, Ca⟩) ?_
            clear hKE KE
            apply SeqT.one
            apply EffT.go
            · rfl
            intro KE hKE
            go_wp2_with fail
            refine (step_any t x _ ((HV.out.below hBa).more hBa.size)).mono ?_
            rintro e' w3 ⟨rfl, hb⟩
            have hB3 := below_trans hBa hb hBa.size
            have C1 := Ca.keep hb
            have Z1 := Z.keep hb
            refine hKE _ _ (hTP' _ ⟨hB3, C1⟩) ?_
            clear hKE KE hb
            go_wp2_with (first
              | (apply SeqT.skip; rfl; simp only [Act.put, List.setIfInBounds_toArray, List.set_cons_zero, List.set_cons_succ])
              | (apply SeqT.pure; rfl; (intro w2 hw; have hw := hTP _ hw; exact exec_load_blk 51 _ rfl _ rfl _ _ (hw.2) _ Try.underlying51 rfl tot_info); simp only [Act.put, List.setIfInBounds_toArray, List.set_cons_zero, List.set_cons_succ])
              | (apply SeqT.pure; rfl; (intro w2 hw; have hw := hTP _ hw; (skip); go_simp; with_reducible rfl); simp only [Act.put, List.setIfInBounds_toArray, List.set_cons_zero, List.set_cons_succ]))
            apply SeqT.one
            apply EffT.go
            · rfl
            intro KE hKE
            refine wp_store_blk 51 _ _ rfl _ (totv _) rfl rfl _ _ Z1 tot_info rfl (totv_one _) ?_
            intro w8 B8 hb8 hk8
            have hB8 := hB3.trans (hb8 _ hz)
            have C8 := hk8 _ _ _ hne.symm C1
            refine hKE _ _ (hTP' _ ⟨hB8, C8⟩) ?_
            clear hKE KE
            go_wp2_with (first
              | (apply SeqT.skip; rfl; simp only [Act.put, List.setIfInBounds_toArray, List.set_cons_zero, List.set_cons_succ])
              | (apply SeqT.pure; rfl; (intro w2 hw; have hw := hTP _ hw; exact exec_load_blk 51 _ rfl _ rfl _ _ (hw.2) _ Try.underlying51 rfl tot_info); simp only [Act.put, List.setIfInBounds_toArray, List.set_cons_zero, List.set_cons_succ])
              | (apply SeqT.pure; rfl; (intro w2 hw; have hw := hTP _ hw; (skip); go_simp; with_reducible rfl); simp only [Act.put, List.setIfInBounds_toArray, List.set_cons_zero, List.set_cons_succ]))
            apply SeqT.done
            clear Z hBa Ca hb8 hk8 hz Z1
            generalize wr.heap.size = gg at B8 hne ⊢
            exact HK gg _ ⟨hB8, C8, B8, hne⟩
        · intro g w4 hI
          refine hKP _ _ (hTP' _ ⟨hI.1, hI.2.1⟩) ?_
          clear hKP hTP hTP' FA HV hB B1
          obtain ⟨hS, hK⟩ := HS.out
          clear HS
          generalize vstepT t x = o at hS hK hI ⊢
          obtain ⟨hB4, C4, G4, hne⟩ := hI
          have hz4 := hB4.size
          have wl : IntKind.i64.wrap ((j : Int) + 1) = (j : Int) + 1 := IntWalk.i64_in _ (by omega)
          have HK2 := Lib.hid hK
          have HS2 := Lib.hid hS
          clear hK hS
          go_wp2_with fail
          refine (at_any l _ c ((j : Int) + 1) _ ((HE.out.below hB4).more hz4) hc hc2).mono ?_
          rw [HK2.out]
          rintro e' w5 ⟨rfl, hb⟩
          have hB5 := below_trans hB4 hb hz4
          have C5 := C4.keep hb
          have G5 := G4.keep hb
          have hz5 := hB5.size
          clear hb C4 G4 hB4
          cases o with
          | none =>
            simp only [totR]
            go_wp2_with ((with_reducible refine at_list ?_); first | ((refine wpList_store_blk rfl 51 _ _ rfl _ (totv _) rfl rfl _ _ (Blk.new _ _ _) tot_info rfl (totv_one _) ?_; intro w6 B6 hb6 hk6); have G6 := blk_step G5 hk6; have hB6 := (hB5.alloc hz5 _).trans (hb6 _ hz5); clear hb6 hk6 G5 hB5) | refine wpList_load_blk_g 51 _ rfl rfl _ rfl _ _ _ (G6) Try.underlying51 rfl tot_info ?_ | refine wpList_load_blk_g 51 _ rfl rfl _ rfl _ _ _ (B6) Try.underlying51 rfl tot_info ?_ | refine wpList_agg_g rfl rfl Try.eqGuardType51 rfl rfl (neq_tot _ tot0) ?_ | refine wpList_agg_g rfl rfl Try.eqGuardType51 rfl rfl (eql_tot _ tot0) ?_)
            refine (lives_any _).mono ?_
            rintro e wz ⟨rfl, hb⟩
            have hBz := below_trans hB6 hb hB6.size
            clear hb
            go_wp2_with fail
            go_ret
            exact ⟨rfl, hBz⟩
          | some t' =>
            simp only [totR]
            go_wp2_with ((with_reducible refine at_list ?_); first | ((refine wpList_store_blk rfl 51 _ _ rfl _ (totv _) rfl rfl _ _ (Blk.new _ _ _) tot_info rfl (totv_one _) ?_; intro w6 B6 hb6 hk6); have G6 := blk_step G5 hk6; have C6 := blk_step C5 hk6; have hB6 := (hB5.alloc hz5 _).trans (hb6 _ hz5); clear hb6 hk6 G5 C5 hB5) | refine wpList_load_blk_g 51 _ rfl rfl _ rfl _ _ _ (G6) Try.underlying51 rfl tot_info ?_ | refine wpList_load_blk_g 51 _ rfl rfl _ rfl _ _ _ (B6) Try.underlying51 rfl tot_info ?_ | refine wpList_agg_g rfl rfl Try.eqGuardType51 rfl rfl (neq_tot _ t') ?_ | (refine wpList_store_blk rfl 51 _ _ rfl _ (totv _) rfl rfl _ _ (C6) tot_info rfl (totv_one _) ?_; intro w7 B7 hb7 hk7))
            go_roundg (l.length - (j + 1))
            case measure => have hkk := AA.out.1; omega
            case rel => exact ⟨j + 1, t', rfl, by omega, by go_num, HS2.out, hB6.trans (hb7 _ hz1), B7⟩
      · obtain rfl : j = l.length := by omega
        go_wp2_with fail
        refine (lives_any _).mono ?_
        rintro e wz ⟨rfl, hb⟩
        have hBz := below_trans hB hb hB.size
        go_wp2_with fail
        go_ret
        exact ⟨rfl, hBz⟩
end Go.Proofs.Ytelkibmiinjokaa
