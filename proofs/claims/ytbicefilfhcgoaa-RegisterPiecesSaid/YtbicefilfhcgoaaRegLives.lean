/-
  The walk over chapter 15's 'lives'.
-/
import Derived.Test.YtbicefilfhcgoaaRegHeld
set_option linter.unusedSimpArgs false
set_option linter.unusedVariables false
set_option maxRecDepth 100000
namespace Go.Proofs.Ytbicefilfhcgoaa
open Go Go.RowKit Go.Sq Go.Wd Go.Arch

def entI (i : Int) : Ent := (4, i, 0, -1, 2, 1)
def rA : RegS := ⟨4, 0, [], 0⟩
def rB : RegS := ⟨4, 4, [entI 7], 0⟩
def rC : RegS := ⟨4, 4, [entI 7, entI 8], 0⟩
def rD : RegS := ⟨4, 4, [entI 7, entI 8], 1⟩
def rE : RegS := ⟨7, 7, [entI 7], 1⟩
def recL (k e f n : Int) (s : SlcE) (l : List Ent) : RecV := ⟨k, 0, e, 0, f, n, s, l, (none, 0, 0)⟩
theorem ap1 (s : SlcE) : applyR reg0 (recL 1 4 0 0 s []).s = some rA := rfl
theorem ap2 (s : SlcE) : applyR rA (recL 2 4 0 0 s [entI 7]).s = some rB := rfl
theorem ap3 (s : SlcE) : applyR rB (recL 2 4 1 0 s [entI 8]).s = some rC := rfl
theorem ap4 (s : SlcE) : applyR rC (recL 3 0 0 1 s []).s = some rD := rfl
theorem ap5 (s : SlcE) : applyR rD (recL 2 7 0 0 s [entI 7]).s = some rE := rfl
theorem ay1 (s : SlcE) : (applyR rA (recL 2 3 0 0 s []).s).isSome = false := rfl
theorem ay2 (s : SlcE) : (applyR rC (recL 2 4 0 0 s []).s).isSome = false := rfl
theorem ay3 (s : SlcE) : (applyR rD (recL 2 7 0 0 s [entI 9]).s).isSome = false := rfl
theorem ay4 (s : SlcE) : (applyR reg0 (recL 3 0 0 1 s []).s).isSome = false := rfl

set_option maxHeartbeats 8000000 in
theorem lives15_any (w : World) : Calls Try.prog 15 #[] w fun e w' => e = .returned (.bool true) ∧ Below w.heap.size w w' := by
  have hw0 : Below w.heap.size w (w.alloc (.cells (rgv reg0 (none, 0, 0)).toArray 24)) := (Below.refl _ _).alloc (Nat.le_refl _) _
  have HL0 : HeldR (w.alloc (.cells (rgv reg0 (none, 0, 0)).toArray 24)) [(w.heap.size, reg0, (none, 0, 0))] := HeldR.nil.add (Blk.new w _ _) LogAt.nil
  have HH := Lib.hid (And.intro hw0 HL0)
  clear hw0 HL0
  go_enter Try.func15, Try.ntmps15
  go_wp2_with ((with_reducible refine at_list ?_); refine wpList_load_blk rfl 24 _ rfl _ rfl _ _ _ (HH.out.2.blk 0 rfl) Try.underlying24 rfl rg_info ?_)
  refine (apply_to _ (recL 1 4 0 0 (none, 0, 0) []) _ (ap1 _) (HH.out.2.log 0 rfl) LogAt.nil (by simp [recL])).mono ?_
  rintro e w1 ⟨sA, rfl, hR, hb⟩
  have hw1 := below_trans HH.out.1 hb HH.out.1.size
  have HL1 := HH.out.2.keep hb
  clear HH hb
  have hz1 := hw1.size
  go_wp2_with ((with_reducible refine at_list ?_); (refine wpList_store_own rfl 24 _ _ rfl _ (rgv rA sA) rfl rfl _ _ (Blk.new w1 24 (rgv reg0 (none, 0, 0))) rg_info rfl (rgv_one _ _) ?_; intro w2 B2 g2))
  have hb2 := below_new g2
  have hw2 := below_trans hw1 hb2 hz1
  have HL2 := (HL1.keep hb2).add B2 (hR.keep hb2)
  clear HL1 B2 g2 hR hb2 hw1 hz1
  generalize w1.heap.size = gA at HL2 ⊢
  obtain ⟨wq, rfl⟩ : ∃ z, z = w2 := ⟨_, rfl⟩
  refine wp_region_t (.quiet 0 (.two 1 8 (.two 2 8 (.quiet 3 (.two 4 8 (.quiet 5 (.quiet 6 (.quiet 7 (.one 8 (.one 9 (.quiet 10 .done)))))) (.one 4 (.quiet 5 (.quiet 6 (.quiet 7 (.one 9 (.quiet 10 .done)))))))) (.one 2 (.quiet 3 (.one 4 (.quiet 5 (.quiet 6 (.quiet 7 (.one 9 (.quiet 10 .done))))))))) (.one 1 (.one 2 (.quiet 3 (.one 4 (.quiet 5 (.quiet 6 (.quiet 7 (.one 9 (.quiet 10 .done))))))))))) (fun w' => Below wq.heap.size wq w') (by kernel_rfl) (by kernel_rfl) (by kernel_rfl) (by kernel_rfl) ((Below.refl _ _).drew) rfl ?_
  intro KP RP TP hKP hTP hTP'
  simp only [Sch.fill, nth]
  apply merge3 (Inv := fun g k s w' => Below wq.heap.size wq w' ∧ wq.heap.size ≤ g ∧ Blk w' g 24 (rgv rB s) ∧ LogAt w' w'.heap.size s (rB).log) (K := KP)
  · intro HK
    have hQ : Below wq.heap.size wq wq.drew := (Below.refl _ _).drew
    generalize wq.drew = wc at hQ ⊢
    go_wp2_with (first
      | (apply SeqT.skip; rfl; simp only [Act.put, List.setIfInBounds_toArray, List.set_cons_zero, List.set_cons_succ])
      | (apply SeqT.pure; rfl; (intro w9 hw9; have hw9 := hTP _ hw9; exact exec_load_blk 24 _ rfl _ rfl _ _ ((HL2.keep hw9).blk 0 rfl) _ Try.underlying24 rfl rg_info); simp only [Act.put, List.setIfInBounds_toArray, List.set_cons_zero, List.set_cons_succ])
      | (apply SeqT.pure; rfl; (intro w9 hw9; go_simp; with_reducible rfl); simp only [Act.put, List.setIfInBounds_toArray, List.set_cons_zero, List.set_cons_succ]))
    all_goals first | apply SeqT.two | apply SeqT.one
    all_goals first
      | (refine EffT.is (some 20) rfl ?_
         apply EffT.go
         · rfl
         intro KE hKE
         go_wp2_with fail
         refine (entry15_any _ _ _).mono ?_
         rintro e wd ⟨rfl, hb⟩
         have hQ' := below_trans hQ hb hQ.size
         refine hKE _ _ (hTP' _ hQ') ?_
         clear hKE KE hQ
         try replace hS := hS.keep hb
         try replace hR := hR.keep hb
         try replace hZ := hZ.keep hb
         clear hb
         try clear wc
         obtain ⟨wc, rfl⟩ : ∃ z, z = wd := ⟨_, rfl⟩
         have hQ := hQ'
         clear hQ'
         go_wp2_with (first
           | (apply SeqT.skip; rfl; simp only [Act.put, List.setIfInBounds_toArray, List.set_cons_zero, List.set_cons_succ])
           | (apply SeqT.pure; rfl; (intro w9 hw9; have hw9 := hTP _ hw9; exact exec_load_blk 24 _ rfl _ rfl _ _ ((HL2.keep hw9).blk 0 rfl) _ Try.underlying24 rfl rg_info); simp only [Act.put, List.setIfInBounds_toArray, List.set_cons_zero, List.set_cons_succ])
           | (apply SeqT.pure; rfl; (intro w9 hw9; go_simp; with_reducible rfl); simp only [Act.put, List.setIfInBounds_toArray, List.set_cons_zero, List.set_cons_succ])))
      | (refine EffT.is (some 21) rfl ?_
         apply EffT.go
         · rfl
         intro KE hKE
         go_wp2_with fail
         refine eff_abs hKE (fun W' => Below wc.heap.size wc W' ∧ LogAt W' W'.heap.size (some ⟨wc.heap.size, 0, none⟩, 1, 1) [entI 7]) ⟨(Below.refl _ _).alloc (Nat.le_refl _) _, lit_log wc (entI 7)⟩ (fun W' h => hTP' _ (below_trans hQ h.1 hQ.size)) ?_
         rintro wd ⟨hb, hS⟩
         have hQ' := below_trans hQ hb hQ.size
         generalize wc.heap.size = gs at hS ⊢
         have hS0 := hS
         clear hS
         clear hKE KE hQ
         try replace hZ := hZ.keep hb
         clear hb
         try clear wc
         obtain ⟨wc, rfl⟩ : ∃ z, z = wd := ⟨_, rfl⟩
         have hS := hS0
         clear hS0
         have hQ := hQ'
         clear hQ'
         go_wp2_with (first
           | (apply SeqT.skip; rfl; simp only [Act.put, List.setIfInBounds_toArray, List.set_cons_zero, List.set_cons_succ])
           | (apply SeqT.pure; rfl; (intro w9 hw9; have hw9 := hTP _ hw9; exact exec_load_blk 24 _ rfl _ rfl _ _ ((HL2.keep hw9).blk 0 rfl) _ Try.underlying24 rfl rg_info); simp only [Act.put, List.setIfInBounds_toArray, List.set_cons_zero, List.set_cons_succ])
           | (apply SeqT.pure; rfl; (intro w9 hw9; go_simp; with_reducible rfl); simp only [Act.put, List.setIfInBounds_toArray, List.set_cons_zero, List.set_cons_succ])))
      | (refine EffT.is (some 23) rfl ?_
         apply EffT.go
         · rfl
         intro KE hKE
         go_wp2_with fail
         refine (apply_to _ (recL 2 4 0 0 _ [entI 7]) wc (ap2 _) ((HL2.keep hQ).log 0 rfl) hS (by show (1 : Nat) ≤ 1000; decide)).mono ?_
         rintro e wd ⟨sr, rfl, hR0, hb⟩
         have hQ' := below_trans hQ hb hQ.size
         refine hKE _ _ (hTP' _ hQ') ?_
         clear hKE KE hQ
         try replace hS := hS.keep hb
         try replace hZ := hZ.keep hb
         clear hb
         try clear wc
         obtain ⟨wc, rfl⟩ : ∃ z, z = wd := ⟨_, rfl⟩
         have hR := hR0
         clear hR0
         have hQ := hQ'
         clear hQ'
         go_wp2_with (first
           | (apply SeqT.skip; rfl; simp only [Act.put, List.setIfInBounds_toArray, List.set_cons_zero, List.set_cons_succ])
           | (apply SeqT.pure; rfl; (intro w9 hw9; have hw9 := hTP _ hw9; exact exec_load_blk 24 _ rfl _ rfl _ _ ((HL2.keep hw9).blk 0 rfl) _ Try.underlying24 rfl rg_info); simp only [Act.put, List.setIfInBounds_toArray, List.set_cons_zero, List.set_cons_succ])
           | (apply SeqT.pure; rfl; (intro w9 hw9; go_simp; with_reducible rfl); simp only [Act.put, List.setIfInBounds_toArray, List.set_cons_zero, List.set_cons_succ])))
      | (refine EffT.is (some 4) rfl ?_
         apply EffT.go
         · rfl
         intro KE hKE
         go_wp2_with fail
         refine eff_abs hKE (fun W' => Below wc.heap.size wc W' ∧ Blk W' wc.heap.size 24 (rgv reg0 (none, 0, 0))) ⟨(Below.refl _ _).alloc (Nat.le_refl _) _, Blk.new wc 24 (rgv reg0 (none, 0, 0))⟩ (fun W' h => hTP' _ (below_trans hQ h.1 hQ.size)) ?_
         rintro wd ⟨hb, hZ0⟩
         have hQ' := below_trans hQ hb hQ.size
         have hgz := hQ.size
         generalize wc.heap.size = gz at hZ0 hgz ⊢
         clear hKE KE hQ
         try replace hS := hS.keep hb
         try replace hR := hR.keep hb
         clear hb
         try clear wc
         obtain ⟨wc, rfl⟩ : ∃ z, z = wd := ⟨_, rfl⟩
         have hZ := hZ0
         clear hZ0
         have hQ := hQ'
         clear hQ'
         go_wp2_with (first
           | (apply SeqT.skip; rfl; simp only [Act.put, List.setIfInBounds_toArray, List.set_cons_zero, List.set_cons_succ])
           | (apply SeqT.pure; rfl; (intro w9 hw9; have hw9 := hTP _ hw9; exact exec_load_blk 24 _ rfl _ rfl _ _ ((HL2.keep hw9).blk 0 rfl) _ Try.underlying24 rfl rg_info); simp only [Act.put, List.setIfInBounds_toArray, List.set_cons_zero, List.set_cons_succ])
           | (apply SeqT.pure; rfl; (intro w9 hw9; go_simp; with_reducible rfl); simp only [Act.put, List.setIfInBounds_toArray, List.set_cons_zero, List.set_cons_succ])))
    all_goals first | apply SeqT.two | apply SeqT.one
    all_goals first
      | (refine EffT.is (some 20) rfl ?_
         apply EffT.go
         · rfl
         intro KE hKE
         go_wp2_with fail
         refine (entry15_any _ _ _).mono ?_
         rintro e wd ⟨rfl, hb⟩
         have hQ' := below_trans hQ hb hQ.size
         refine hKE _ _ (hTP' _ hQ') ?_
         clear hKE KE hQ
         try replace hS := hS.keep hb
         try replace hR := hR.keep hb
         try replace hZ := hZ.keep hb
         clear hb
         try clear wc
         obtain ⟨wc, rfl⟩ : ∃ z, z = wd := ⟨_, rfl⟩
         have hQ := hQ'
         clear hQ'
         go_wp2_with (first
           | (apply SeqT.skip; rfl; simp only [Act.put, List.setIfInBounds_toArray, List.set_cons_zero, List.set_cons_succ])
           | (apply SeqT.pure; rfl; (intro w9 hw9; have hw9 := hTP _ hw9; exact exec_load_blk 24 _ rfl _ rfl _ _ ((HL2.keep hw9).blk 0 rfl) _ Try.underlying24 rfl rg_info); simp only [Act.put, List.setIfInBounds_toArray, List.set_cons_zero, List.set_cons_succ])
           | (apply SeqT.pure; rfl; (intro w9 hw9; go_simp; with_reducible rfl); simp only [Act.put, List.setIfInBounds_toArray, List.set_cons_zero, List.set_cons_succ])))
      | (refine EffT.is (some 21) rfl ?_
         apply EffT.go
         · rfl
         intro KE hKE
         go_wp2_with fail
         refine eff_abs hKE (fun W' => Below wc.heap.size wc W' ∧ LogAt W' W'.heap.size (some ⟨wc.heap.size, 0, none⟩, 1, 1) [entI 7]) ⟨(Below.refl _ _).alloc (Nat.le_refl _) _, lit_log wc (entI 7)⟩ (fun W' h => hTP' _ (below_trans hQ h.1 hQ.size)) ?_
         rintro wd ⟨hb, hS⟩
         have hQ' := below_trans hQ hb hQ.size
         generalize wc.heap.size = gs at hS ⊢
         have hS0 := hS
         clear hS
         clear hKE KE hQ
         try replace hZ := hZ.keep hb
         clear hb
         try clear wc
         obtain ⟨wc, rfl⟩ : ∃ z, z = wd := ⟨_, rfl⟩
         have hS := hS0
         clear hS0
         have hQ := hQ'
         clear hQ'
         go_wp2_with (first
           | (apply SeqT.skip; rfl; simp only [Act.put, List.setIfInBounds_toArray, List.set_cons_zero, List.set_cons_succ])
           | (apply SeqT.pure; rfl; (intro w9 hw9; have hw9 := hTP _ hw9; exact exec_load_blk 24 _ rfl _ rfl _ _ ((HL2.keep hw9).blk 0 rfl) _ Try.underlying24 rfl rg_info); simp only [Act.put, List.setIfInBounds_toArray, List.set_cons_zero, List.set_cons_succ])
           | (apply SeqT.pure; rfl; (intro w9 hw9; go_simp; with_reducible rfl); simp only [Act.put, List.setIfInBounds_toArray, List.set_cons_zero, List.set_cons_succ])))
      | (refine EffT.is (some 23) rfl ?_
         apply EffT.go
         · rfl
         intro KE hKE
         go_wp2_with fail
         refine (apply_to _ (recL 2 4 0 0 _ [entI 7]) wc (ap2 _) ((HL2.keep hQ).log 0 rfl) hS (by show (1 : Nat) ≤ 1000; decide)).mono ?_
         rintro e wd ⟨sr, rfl, hR0, hb⟩
         have hQ' := below_trans hQ hb hQ.size
         refine hKE _ _ (hTP' _ hQ') ?_
         clear hKE KE hQ
         try replace hS := hS.keep hb
         try replace hZ := hZ.keep hb
         clear hb
         try clear wc
         obtain ⟨wc, rfl⟩ : ∃ z, z = wd := ⟨_, rfl⟩
         have hR := hR0
         clear hR0
         have hQ := hQ'
         clear hQ'
         go_wp2_with (first
           | (apply SeqT.skip; rfl; simp only [Act.put, List.setIfInBounds_toArray, List.set_cons_zero, List.set_cons_succ])
           | (apply SeqT.pure; rfl; (intro w9 hw9; have hw9 := hTP _ hw9; exact exec_load_blk 24 _ rfl _ rfl _ _ ((HL2.keep hw9).blk 0 rfl) _ Try.underlying24 rfl rg_info); simp only [Act.put, List.setIfInBounds_toArray, List.set_cons_zero, List.set_cons_succ])
           | (apply SeqT.pure; rfl; (intro w9 hw9; go_simp; with_reducible rfl); simp only [Act.put, List.setIfInBounds_toArray, List.set_cons_zero, List.set_cons_succ])))
      | (refine EffT.is (some 4) rfl ?_
         apply EffT.go
         · rfl
         intro KE hKE
         go_wp2_with fail
         refine eff_abs hKE (fun W' => Below wc.heap.size wc W' ∧ Blk W' wc.heap.size 24 (rgv reg0 (none, 0, 0))) ⟨(Below.refl _ _).alloc (Nat.le_refl _) _, Blk.new wc 24 (rgv reg0 (none, 0, 0))⟩ (fun W' h => hTP' _ (below_trans hQ h.1 hQ.size)) ?_
         rintro wd ⟨hb, hZ0⟩
         have hQ' := below_trans hQ hb hQ.size
         have hgz := hQ.size
         generalize wc.heap.size = gz at hZ0 hgz ⊢
         clear hKE KE hQ
         try replace hS := hS.keep hb
         try replace hR := hR.keep hb
         clear hb
         try clear wc
         obtain ⟨wc, rfl⟩ : ∃ z, z = wd := ⟨_, rfl⟩
         have hZ := hZ0
         clear hZ0
         have hQ := hQ'
         clear hQ'
         go_wp2_with (first
           | (apply SeqT.skip; rfl; simp only [Act.put, List.setIfInBounds_toArray, List.set_cons_zero, List.set_cons_succ])
           | (apply SeqT.pure; rfl; (intro w9 hw9; have hw9 := hTP _ hw9; exact exec_load_blk 24 _ rfl _ rfl _ _ ((HL2.keep hw9).blk 0 rfl) _ Try.underlying24 rfl rg_info); simp only [Act.put, List.setIfInBounds_toArray, List.set_cons_zero, List.set_cons_succ])
           | (apply SeqT.pure; rfl; (intro w9 hw9; go_simp; with_reducible rfl); simp only [Act.put, List.setIfInBounds_toArray, List.set_cons_zero, List.set_cons_succ])))
    all_goals first | apply SeqT.two | apply SeqT.one
    all_goals first
      | (refine EffT.is (some 20) rfl ?_
         apply EffT.go
         · rfl
         intro KE hKE
         go_wp2_with fail
         refine (entry15_any _ _ _).mono ?_
         rintro e wd ⟨rfl, hb⟩
         have hQ' := below_trans hQ hb hQ.size
         refine hKE _ _ (hTP' _ hQ') ?_
         clear hKE KE hQ
         try replace hS := hS.keep hb
         try replace hR := hR.keep hb
         try replace hZ := hZ.keep hb
         clear hb
         try clear wc
         obtain ⟨wc, rfl⟩ : ∃ z, z = wd := ⟨_, rfl⟩
         have hQ := hQ'
         clear hQ'
         go_wp2_with (first
           | (apply SeqT.skip; rfl; simp only [Act.put, List.setIfInBounds_toArray, List.set_cons_zero, List.set_cons_succ])
           | (apply SeqT.pure; rfl; (intro w9 hw9; have hw9 := hTP _ hw9; exact exec_load_blk 24 _ rfl _ rfl _ _ ((HL2.keep hw9).blk 0 rfl) _ Try.underlying24 rfl rg_info); simp only [Act.put, List.setIfInBounds_toArray, List.set_cons_zero, List.set_cons_succ])
           | (apply SeqT.pure; rfl; (intro w9 hw9; go_simp; with_reducible rfl); simp only [Act.put, List.setIfInBounds_toArray, List.set_cons_zero, List.set_cons_succ])))
      | (refine EffT.is (some 21) rfl ?_
         apply EffT.go
         · rfl
         intro KE hKE
         go_wp2_with fail
         refine eff_abs hKE (fun W' => Below wc.heap.size wc W' ∧ LogAt W' W'.heap.size (some ⟨wc.heap.size, 0, none⟩, 1, 1) [entI 7]) ⟨(Below.refl _ _).alloc (Nat.le_refl _) _, lit_log wc (entI 7)⟩ (fun W' h => hTP' _ (below_trans hQ h.1 hQ.size)) ?_
         rintro wd ⟨hb, hS⟩
         have hQ' := below_trans hQ hb hQ.size
         generalize wc.heap.size = gs at hS ⊢
         have hS0 := hS
         clear hS
         clear hKE KE hQ
         try replace hZ := hZ.keep hb
         clear hb
         try clear wc
         obtain ⟨wc, rfl⟩ : ∃ z, z = wd := ⟨_, rfl⟩
         have hS := hS0
         clear hS0
         have hQ := hQ'
         clear hQ'
         go_wp2_with (first
           | (apply SeqT.skip; rfl; simp only [Act.put, List.setIfInBounds_toArray, List.set_cons_zero, List.set_cons_succ])
           | (apply SeqT.pure; rfl; (intro w9 hw9; have hw9 := hTP _ hw9; exact exec_load_blk 24 _ rfl _ rfl _ _ ((HL2.keep hw9).blk 0 rfl) _ Try.underlying24 rfl rg_info); simp only [Act.put, List.setIfInBounds_toArray, List.set_cons_zero, List.set_cons_succ])
           | (apply SeqT.pure; rfl; (intro w9 hw9; go_simp; with_reducible rfl); simp only [Act.put, List.setIfInBounds_toArray, List.set_cons_zero, List.set_cons_succ])))
      | (refine EffT.is (some 23) rfl ?_
         apply EffT.go
         · rfl
         intro KE hKE
         go_wp2_with fail
         refine (apply_to _ (recL 2 4 0 0 _ [entI 7]) wc (ap2 _) ((HL2.keep hQ).log 0 rfl) hS (by show (1 : Nat) ≤ 1000; decide)).mono ?_
         rintro e wd ⟨sr, rfl, hR0, hb⟩
         have hQ' := below_trans hQ hb hQ.size
         refine hKE _ _ (hTP' _ hQ') ?_
         clear hKE KE hQ
         try replace hS := hS.keep hb
         try replace hZ := hZ.keep hb
         clear hb
         try clear wc
         obtain ⟨wc, rfl⟩ : ∃ z, z = wd := ⟨_, rfl⟩
         have hR := hR0
         clear hR0
         have hQ := hQ'
         clear hQ'
         go_wp2_with (first
           | (apply SeqT.skip; rfl; simp only [Act.put, List.setIfInBounds_toArray, List.set_cons_zero, List.set_cons_succ])
           | (apply SeqT.pure; rfl; (intro w9 hw9; have hw9 := hTP _ hw9; exact exec_load_blk 24 _ rfl _ rfl _ _ ((HL2.keep hw9).blk 0 rfl) _ Try.underlying24 rfl rg_info); simp only [Act.put, List.setIfInBounds_toArray, List.set_cons_zero, List.set_cons_succ])
           | (apply SeqT.pure; rfl; (intro w9 hw9; go_simp; with_reducible rfl); simp only [Act.put, List.setIfInBounds_toArray, List.set_cons_zero, List.set_cons_succ])))
      | (refine EffT.is (some 4) rfl ?_
         apply EffT.go
         · rfl
         intro KE hKE
         go_wp2_with fail
         refine eff_abs hKE (fun W' => Below wc.heap.size wc W' ∧ Blk W' wc.heap.size 24 (rgv reg0 (none, 0, 0))) ⟨(Below.refl _ _).alloc (Nat.le_refl _) _, Blk.new wc 24 (rgv reg0 (none, 0, 0))⟩ (fun W' h => hTP' _ (below_trans hQ h.1 hQ.size)) ?_
         rintro wd ⟨hb, hZ0⟩
         have hQ' := below_trans hQ hb hQ.size
         have hgz := hQ.size
         generalize wc.heap.size = gz at hZ0 hgz ⊢
         clear hKE KE hQ
         try replace hS := hS.keep hb
         try replace hR := hR.keep hb
         clear hb
         try clear wc
         obtain ⟨wc, rfl⟩ : ∃ z, z = wd := ⟨_, rfl⟩
         have hZ := hZ0
         clear hZ0
         have hQ := hQ'
         clear hQ'
         go_wp2_with (first
           | (apply SeqT.skip; rfl; simp only [Act.put, List.setIfInBounds_toArray, List.set_cons_zero, List.set_cons_succ])
           | (apply SeqT.pure; rfl; (intro w9 hw9; have hw9 := hTP _ hw9; exact exec_load_blk 24 _ rfl _ rfl _ _ ((HL2.keep hw9).blk 0 rfl) _ Try.underlying24 rfl rg_info); simp only [Act.put, List.setIfInBounds_toArray, List.set_cons_zero, List.set_cons_succ])
           | (apply SeqT.pure; rfl; (intro w9 hw9; go_simp; with_reducible rfl); simp only [Act.put, List.setIfInBounds_toArray, List.set_cons_zero, List.set_cons_succ])))
    all_goals first | apply SeqT.two | apply SeqT.one
    all_goals first
      | (refine EffT.is (some 20) rfl ?_
         apply EffT.go
         · rfl
         intro KE hKE
         go_wp2_with fail
         refine (entry15_any _ _ _).mono ?_
         rintro e wd ⟨rfl, hb⟩
         have hQ' := below_trans hQ hb hQ.size
         refine hKE _ _ (hTP' _ hQ') ?_
         clear hKE KE hQ
         try replace hS := hS.keep hb
         try replace hR := hR.keep hb
         try replace hZ := hZ.keep hb
         clear hb
         try clear wc
         obtain ⟨wc, rfl⟩ : ∃ z, z = wd := ⟨_, rfl⟩
         have hQ := hQ'
         clear hQ'
         go_wp2_with (first
           | (apply SeqT.skip; rfl; simp only [Act.put, List.setIfInBounds_toArray, List.set_cons_zero, List.set_cons_succ])
           | (apply SeqT.pure; rfl; (intro w9 hw9; have hw9 := hTP _ hw9; exact exec_load_blk 24 _ rfl _ rfl _ _ ((HL2.keep hw9).blk 0 rfl) _ Try.underlying24 rfl rg_info); simp only [Act.put, List.setIfInBounds_toArray, List.set_cons_zero, List.set_cons_succ])
           | (apply SeqT.pure; rfl; (intro w9 hw9; go_simp; with_reducible rfl); simp only [Act.put, List.setIfInBounds_toArray, List.set_cons_zero, List.set_cons_succ])))
      | (refine EffT.is (some 21) rfl ?_
         apply EffT.go
         · rfl
         intro KE hKE
         go_wp2_with fail
         refine eff_abs hKE (fun W' => Below wc.heap.size wc W' ∧ LogAt W' W'.heap.size (some ⟨wc.heap.size, 0, none⟩, 1, 1) [entI 7]) ⟨(Below.refl _ _).alloc (Nat.le_refl _) _, lit_log wc (entI 7)⟩ (fun W' h => hTP' _ (below_trans hQ h.1 hQ.size)) ?_
         rintro wd ⟨hb, hS⟩
         have hQ' := below_trans hQ hb hQ.size
         generalize wc.heap.size = gs at hS ⊢
         have hS0 := hS
         clear hS
         clear hKE KE hQ
         try replace hZ := hZ.keep hb
         clear hb
         try clear wc
         obtain ⟨wc, rfl⟩ : ∃ z, z = wd := ⟨_, rfl⟩
         have hS := hS0
         clear hS0
         have hQ := hQ'
         clear hQ'
         go_wp2_with (first
           | (apply SeqT.skip; rfl; simp only [Act.put, List.setIfInBounds_toArray, List.set_cons_zero, List.set_cons_succ])
           | (apply SeqT.pure; rfl; (intro w9 hw9; have hw9 := hTP _ hw9; exact exec_load_blk 24 _ rfl _ rfl _ _ ((HL2.keep hw9).blk 0 rfl) _ Try.underlying24 rfl rg_info); simp only [Act.put, List.setIfInBounds_toArray, List.set_cons_zero, List.set_cons_succ])
           | (apply SeqT.pure; rfl; (intro w9 hw9; go_simp; with_reducible rfl); simp only [Act.put, List.setIfInBounds_toArray, List.set_cons_zero, List.set_cons_succ])))
      | (refine EffT.is (some 23) rfl ?_
         apply EffT.go
         · rfl
         intro KE hKE
         go_wp2_with fail
         refine (apply_to _ (recL 2 4 0 0 _ [entI 7]) wc (ap2 _) ((HL2.keep hQ).log 0 rfl) hS (by show (1 : Nat) ≤ 1000; decide)).mono ?_
         rintro e wd ⟨sr, rfl, hR0, hb⟩
         have hQ' := below_trans hQ hb hQ.size
         refine hKE _ _ (hTP' _ hQ') ?_
         clear hKE KE hQ
         try replace hS := hS.keep hb
         try replace hZ := hZ.keep hb
         clear hb
         try clear wc
         obtain ⟨wc, rfl⟩ : ∃ z, z = wd := ⟨_, rfl⟩
         have hR := hR0
         clear hR0
         have hQ := hQ'
         clear hQ'
         go_wp2_with (first
           | (apply SeqT.skip; rfl; simp only [Act.put, List.setIfInBounds_toArray, List.set_cons_zero, List.set_cons_succ])
           | (apply SeqT.pure; rfl; (intro w9 hw9; have hw9 := hTP _ hw9; exact exec_load_blk 24 _ rfl _ rfl _ _ ((HL2.keep hw9).blk 0 rfl) _ Try.underlying24 rfl rg_info); simp only [Act.put, List.setIfInBounds_toArray, List.set_cons_zero, List.set_cons_succ])
           | (apply SeqT.pure; rfl; (intro w9 hw9; go_simp; with_reducible rfl); simp only [Act.put, List.setIfInBounds_toArray, List.set_cons_zero, List.set_cons_succ])))
      | (refine EffT.is (some 4) rfl ?_
         apply EffT.go
         · rfl
         intro KE hKE
         go_wp2_with fail
         refine eff_abs hKE (fun W' => Below wc.heap.size wc W' ∧ Blk W' wc.heap.size 24 (rgv reg0 (none, 0, 0))) ⟨(Below.refl _ _).alloc (Nat.le_refl _) _, Blk.new wc 24 (rgv reg0 (none, 0, 0))⟩ (fun W' h => hTP' _ (below_trans hQ h.1 hQ.size)) ?_
         rintro wd ⟨hb, hZ0⟩
         have hQ' := below_trans hQ hb hQ.size
         have hgz := hQ.size
         generalize wc.heap.size = gz at hZ0 hgz ⊢
         clear hKE KE hQ
         try replace hS := hS.keep hb
         try replace hR := hR.keep hb
         clear hb
         try clear wc
         obtain ⟨wc, rfl⟩ : ∃ z, z = wd := ⟨_, rfl⟩
         have hZ := hZ0
         clear hZ0
         have hQ := hQ'
         clear hQ'
         go_wp2_with (first
           | (apply SeqT.skip; rfl; simp only [Act.put, List.setIfInBounds_toArray, List.set_cons_zero, List.set_cons_succ])
           | (apply SeqT.pure; rfl; (intro w9 hw9; have hw9 := hTP _ hw9; exact exec_load_blk 24 _ rfl _ rfl _ _ ((HL2.keep hw9).blk 0 rfl) _ Try.underlying24 rfl rg_info); simp only [Act.put, List.setIfInBounds_toArray, List.set_cons_zero, List.set_cons_succ])
           | (apply SeqT.pure; rfl; (intro w9 hw9; go_simp; with_reducible rfl); simp only [Act.put, List.setIfInBounds_toArray, List.set_cons_zero, List.set_cons_succ])))
    all_goals first | apply SeqT.two | apply SeqT.one
    all_goals
      refine EffT.is none rfl ?_
      apply EffT.go
      · rfl
      intro KE hKE
      refine wp_store_own 24 _ _ rfl _ (rgv rB sr) rfl rfl _ _ hZ rg_info rfl (rgv_one _ _) ?_
      intro wd B5 g5
      have hQ' := hQ.trans (below_grown g5 hgz hQ.size)
      have hR5 := hR.stored hZ (by simp [rgv]) g5
      refine hKE _ _ (hTP' _ hQ') ?_
      clear hKE KE
      go_wp2_with (first
        | (apply SeqT.skip; rfl; simp only [Act.put, List.setIfInBounds_toArray, List.set_cons_zero, List.set_cons_succ])
        | (apply SeqT.pure; rfl; (intro w9 hw9; go_simp; with_reducible rfl); simp only [Act.put, List.setIfInBounds_toArray, List.set_cons_zero, List.set_cons_succ]))
      apply SeqT.done
      exact HK gz gs sr wd ⟨hQ', hgz, B5, hR5⟩
  intro gB kB sB w3 ⟨hb3, hge3, B3, R3⟩
  have hw3 := below_trans hw2 hb3 hw2.size
  have HL3 := (HL2.keep hb3).add B3 R3
  refine hKP _ _ (hTP' _ hb3) ?_
  clear hKP hTP hTP' B3 R3 hb3 hge3 HL2 hw2 wq
  obtain ⟨wq, rfl⟩ : ∃ z, z = w3 := ⟨_, rfl⟩
  go_wp2_with fail
  refine wp_region_t (.quiet 0 (.two 1 8 (.two 2 8 (.quiet 3 (.two 4 8 (.quiet 5 (.quiet 6 (.quiet 7 (.one 8 (.one 9 (.quiet 10 .done)))))) (.one 4 (.quiet 5 (.quiet 6 (.quiet 7 (.one 9 (.quiet 10 .done)))))))) (.one 2 (.quiet 3 (.one 4 (.quiet 5 (.quiet 6 (.quiet 7 (.one 9 (.quiet 10 .done))))))))) (.one 1 (.one 2 (.quiet 3 (.one 4 (.quiet 5 (.quiet 6 (.quiet 7 (.one 9 (.quiet 10 .done))))))))))) (fun w' => Below wq.heap.size wq w') (by kernel_rfl) (by kernel_rfl) (by kernel_rfl) (by kernel_rfl) ((Below.refl _ _).drew) rfl ?_
  intro KP RP TP hKP hTP hTP'
  simp only [Sch.fill, nth]
  apply merge3 (Inv := fun g k s w' => Below wq.heap.size wq w' ∧ wq.heap.size ≤ g ∧ Blk w' g 24 (rgv rC s) ∧ LogAt w' w'.heap.size s (rC).log) (K := KP)
  · intro HK
    have hQ : Below wq.heap.size wq wq.drew := (Below.refl _ _).drew
    generalize wq.drew = wc at hQ ⊢
    go_wp2_with (first
      | (apply SeqT.skip; rfl; simp only [Act.put, List.setIfInBounds_toArray, List.set_cons_zero, List.set_cons_succ])
      | (apply SeqT.pure; rfl; (intro w9 hw9; have hw9 := hTP _ hw9; exact exec_load_blk 24 _ rfl _ rfl _ _ ((HL3.keep hw9).blk 0 rfl) _ Try.underlying24 rfl rg_info); simp only [Act.put, List.setIfInBounds_toArray, List.set_cons_zero, List.set_cons_succ])
      | (apply SeqT.pure; rfl; (intro w9 hw9; go_simp; with_reducible rfl); simp only [Act.put, List.setIfInBounds_toArray, List.set_cons_zero, List.set_cons_succ]))
    all_goals first | apply SeqT.two | apply SeqT.one
    all_goals first
      | (refine EffT.is (some 28) rfl ?_
         apply EffT.go
         · rfl
         intro KE hKE
         go_wp2_with fail
         refine (entry15_any _ _ _).mono ?_
         rintro e wd ⟨rfl, hb⟩
         have hQ' := below_trans hQ hb hQ.size
         refine hKE _ _ (hTP' _ hQ') ?_
         clear hKE KE hQ
         try replace hS := hS.keep hb
         try replace hR := hR.keep hb
         try replace hZ := hZ.keep hb
         clear hb
         try clear wc
         obtain ⟨wc, rfl⟩ : ∃ z, z = wd := ⟨_, rfl⟩
         have hQ := hQ'
         clear hQ'
         go_wp2_with (first
           | (apply SeqT.skip; rfl; simp only [Act.put, List.setIfInBounds_toArray, List.set_cons_zero, List.set_cons_succ])
           | (apply SeqT.pure; rfl; (intro w9 hw9; have hw9 := hTP _ hw9; exact exec_load_blk 24 _ rfl _ rfl _ _ ((HL3.keep hw9).blk 0 rfl) _ Try.underlying24 rfl rg_info); simp only [Act.put, List.setIfInBounds_toArray, List.set_cons_zero, List.set_cons_succ])
           | (apply SeqT.pure; rfl; (intro w9 hw9; go_simp; with_reducible rfl); simp only [Act.put, List.setIfInBounds_toArray, List.set_cons_zero, List.set_cons_succ])))
      | (refine EffT.is (some 29) rfl ?_
         apply EffT.go
         · rfl
         intro KE hKE
         go_wp2_with fail
         refine eff_abs hKE (fun W' => Below wc.heap.size wc W' ∧ LogAt W' W'.heap.size (some ⟨wc.heap.size, 0, none⟩, 1, 1) [entI 8]) ⟨(Below.refl _ _).alloc (Nat.le_refl _) _, lit_log wc (entI 8)⟩ (fun W' h => hTP' _ (below_trans hQ h.1 hQ.size)) ?_
         rintro wd ⟨hb, hS⟩
         have hQ' := below_trans hQ hb hQ.size
         generalize wc.heap.size = gs at hS ⊢
         have hS0 := hS
         clear hS
         clear hKE KE hQ
         try replace hZ := hZ.keep hb
         clear hb
         try clear wc
         obtain ⟨wc, rfl⟩ : ∃ z, z = wd := ⟨_, rfl⟩
         have hS := hS0
         clear hS0
         have hQ := hQ'
         clear hQ'
         go_wp2_with (first
           | (apply SeqT.skip; rfl; simp only [Act.put, List.setIfInBounds_toArray, List.set_cons_zero, List.set_cons_succ])
           | (apply SeqT.pure; rfl; (intro w9 hw9; have hw9 := hTP _ hw9; exact exec_load_blk 24 _ rfl _ rfl _ _ ((HL3.keep hw9).blk 0 rfl) _ Try.underlying24 rfl rg_info); simp only [Act.put, List.setIfInBounds_toArray, List.set_cons_zero, List.set_cons_succ])
           | (apply SeqT.pure; rfl; (intro w9 hw9; go_simp; with_reducible rfl); simp only [Act.put, List.setIfInBounds_toArray, List.set_cons_zero, List.set_cons_succ])))
      | (refine EffT.is (some 31) rfl ?_
         apply EffT.go
         · rfl
         intro KE hKE
         go_wp2_with fail
         refine (apply_to _ (recL 2 4 1 0 _ [entI 8]) wc (ap3 _) ((HL3.keep hQ).log 0 rfl) hS (by show (1 : Nat) ≤ 1000; decide)).mono ?_
         rintro e wd ⟨sr, rfl, hR0, hb⟩
         have hQ' := below_trans hQ hb hQ.size
         refine hKE _ _ (hTP' _ hQ') ?_
         clear hKE KE hQ
         try replace hS := hS.keep hb
         try replace hZ := hZ.keep hb
         clear hb
         try clear wc
         obtain ⟨wc, rfl⟩ : ∃ z, z = wd := ⟨_, rfl⟩
         have hR := hR0
         clear hR0
         have hQ := hQ'
         clear hQ'
         go_wp2_with (first
           | (apply SeqT.skip; rfl; simp only [Act.put, List.setIfInBounds_toArray, List.set_cons_zero, List.set_cons_succ])
           | (apply SeqT.pure; rfl; (intro w9 hw9; have hw9 := hTP _ hw9; exact exec_load_blk 24 _ rfl _ rfl _ _ ((HL3.keep hw9).blk 0 rfl) _ Try.underlying24 rfl rg_info); simp only [Act.put, List.setIfInBounds_toArray, List.set_cons_zero, List.set_cons_succ])
           | (apply SeqT.pure; rfl; (intro w9 hw9; go_simp; with_reducible rfl); simp only [Act.put, List.setIfInBounds_toArray, List.set_cons_zero, List.set_cons_succ])))
      | (refine EffT.is (some 6) rfl ?_
         apply EffT.go
         · rfl
         intro KE hKE
         go_wp2_with fail
         refine eff_abs hKE (fun W' => Below wc.heap.size wc W' ∧ Blk W' wc.heap.size 24 (rgv reg0 (none, 0, 0))) ⟨(Below.refl _ _).alloc (Nat.le_refl _) _, Blk.new wc 24 (rgv reg0 (none, 0, 0))⟩ (fun W' h => hTP' _ (below_trans hQ h.1 hQ.size)) ?_
         rintro wd ⟨hb, hZ0⟩
         have hQ' := below_trans hQ hb hQ.size
         have hgz := hQ.size
         generalize wc.heap.size = gz at hZ0 hgz ⊢
         clear hKE KE hQ
         try replace hS := hS.keep hb
         try replace hR := hR.keep hb
         clear hb
         try clear wc
         obtain ⟨wc, rfl⟩ : ∃ z, z = wd := ⟨_, rfl⟩
         have hZ := hZ0
         clear hZ0
         have hQ := hQ'
         clear hQ'
         go_wp2_with (first
           | (apply SeqT.skip; rfl; simp only [Act.put, List.setIfInBounds_toArray, List.set_cons_zero, List.set_cons_succ])
           | (apply SeqT.pure; rfl; (intro w9 hw9; have hw9 := hTP _ hw9; exact exec_load_blk 24 _ rfl _ rfl _ _ ((HL3.keep hw9).blk 0 rfl) _ Try.underlying24 rfl rg_info); simp only [Act.put, List.setIfInBounds_toArray, List.set_cons_zero, List.set_cons_succ])
           | (apply SeqT.pure; rfl; (intro w9 hw9; go_simp; with_reducible rfl); simp only [Act.put, List.setIfInBounds_toArray, List.set_cons_zero, List.set_cons_succ])))
    all_goals first | apply SeqT.two | apply SeqT.one
    all_goals first
      | (refine EffT.is (some 28) rfl ?_
         apply EffT.go
         · rfl
         intro KE hKE
         go_wp2_with fail
         refine (entry15_any _ _ _).mono ?_
         rintro e wd ⟨rfl, hb⟩
         have hQ' := below_trans hQ hb hQ.size
         refine hKE _ _ (hTP' _ hQ') ?_
         clear hKE KE hQ
         try replace hS := hS.keep hb
         try replace hR := hR.keep hb
         try replace hZ := hZ.keep hb
         clear hb
         try clear wc
         obtain ⟨wc, rfl⟩ : ∃ z, z = wd := ⟨_, rfl⟩
         have hQ := hQ'
         clear hQ'
         go_wp2_with (first
           | (apply SeqT.skip; rfl; simp only [Act.put, List.setIfInBounds_toArray, List.set_cons_zero, List.set_cons_succ])
           | (apply SeqT.pure; rfl; (intro w9 hw9; have hw9 := hTP _ hw9; exact exec_load_blk 24 _ rfl _ rfl _ _ ((HL3.keep hw9).blk 0 rfl) _ Try.underlying24 rfl rg_info); simp only [Act.put, List.setIfInBounds_toArray, List.set_cons_zero, List.set_cons_succ])
           | (apply SeqT.pure; rfl; (intro w9 hw9; go_simp; with_reducible rfl); simp only [Act.put, List.setIfInBounds_toArray, List.set_cons_zero, List.set_cons_succ])))
      | (refine EffT.is (some 29) rfl ?_
         apply EffT.go
         · rfl
         intro KE hKE
         go_wp2_with fail
         refine eff_abs hKE (fun W' => Below wc.heap.size wc W' ∧ LogAt W' W'.heap.size (some ⟨wc.heap.size, 0, none⟩, 1, 1) [entI 8]) ⟨(Below.refl _ _).alloc (Nat.le_refl _) _, lit_log wc (entI 8)⟩ (fun W' h => hTP' _ (below_trans hQ h.1 hQ.size)) ?_
         rintro wd ⟨hb, hS⟩
         have hQ' := below_trans hQ hb hQ.size
         generalize wc.heap.size = gs at hS ⊢
         have hS0 := hS
         clear hS
         clear hKE KE hQ
         try replace hZ := hZ.keep hb
         clear hb
         try clear wc
         obtain ⟨wc, rfl⟩ : ∃ z, z = wd := ⟨_, rfl⟩
         have hS := hS0
         clear hS0
         have hQ := hQ'
         clear hQ'
         go_wp2_with (first
           | (apply SeqT.skip; rfl; simp only [Act.put, List.setIfInBounds_toArray, List.set_cons_zero, List.set_cons_succ])
           | (apply SeqT.pure; rfl; (intro w9 hw9; have hw9 := hTP _ hw9; exact exec_load_blk 24 _ rfl _ rfl _ _ ((HL3.keep hw9).blk 0 rfl) _ Try.underlying24 rfl rg_info); simp only [Act.put, List.setIfInBounds_toArray, List.set_cons_zero, List.set_cons_succ])
           | (apply SeqT.pure; rfl; (intro w9 hw9; go_simp; with_reducible rfl); simp only [Act.put, List.setIfInBounds_toArray, List.set_cons_zero, List.set_cons_succ])))
      | (refine EffT.is (some 31) rfl ?_
         apply EffT.go
         · rfl
         intro KE hKE
         go_wp2_with fail
         refine (apply_to _ (recL 2 4 1 0 _ [entI 8]) wc (ap3 _) ((HL3.keep hQ).log 0 rfl) hS (by show (1 : Nat) ≤ 1000; decide)).mono ?_
         rintro e wd ⟨sr, rfl, hR0, hb⟩
         have hQ' := below_trans hQ hb hQ.size
         refine hKE _ _ (hTP' _ hQ') ?_
         clear hKE KE hQ
         try replace hS := hS.keep hb
         try replace hZ := hZ.keep hb
         clear hb
         try clear wc
         obtain ⟨wc, rfl⟩ : ∃ z, z = wd := ⟨_, rfl⟩
         have hR := hR0
         clear hR0
         have hQ := hQ'
         clear hQ'
         go_wp2_with (first
           | (apply SeqT.skip; rfl; simp only [Act.put, List.setIfInBounds_toArray, List.set_cons_zero, List.set_cons_succ])
           | (apply SeqT.pure; rfl; (intro w9 hw9; have hw9 := hTP _ hw9; exact exec_load_blk 24 _ rfl _ rfl _ _ ((HL3.keep hw9).blk 0 rfl) _ Try.underlying24 rfl rg_info); simp only [Act.put, List.setIfInBounds_toArray, List.set_cons_zero, List.set_cons_succ])
           | (apply SeqT.pure; rfl; (intro w9 hw9; go_simp; with_reducible rfl); simp only [Act.put, List.setIfInBounds_toArray, List.set_cons_zero, List.set_cons_succ])))
      | (refine EffT.is (some 6) rfl ?_
         apply EffT.go
         · rfl
         intro KE hKE
         go_wp2_with fail
         refine eff_abs hKE (fun W' => Below wc.heap.size wc W' ∧ Blk W' wc.heap.size 24 (rgv reg0 (none, 0, 0))) ⟨(Below.refl _ _).alloc (Nat.le_refl _) _, Blk.new wc 24 (rgv reg0 (none, 0, 0))⟩ (fun W' h => hTP' _ (below_trans hQ h.1 hQ.size)) ?_
         rintro wd ⟨hb, hZ0⟩
         have hQ' := below_trans hQ hb hQ.size
         have hgz := hQ.size
         generalize wc.heap.size = gz at hZ0 hgz ⊢
         clear hKE KE hQ
         try replace hS := hS.keep hb
         try replace hR := hR.keep hb
         clear hb
         try clear wc
         obtain ⟨wc, rfl⟩ : ∃ z, z = wd := ⟨_, rfl⟩
         have hZ := hZ0
         clear hZ0
         have hQ := hQ'
         clear hQ'
         go_wp2_with (first
           | (apply SeqT.skip; rfl; simp only [Act.put, List.setIfInBounds_toArray, List.set_cons_zero, List.set_cons_succ])
           | (apply SeqT.pure; rfl; (intro w9 hw9; have hw9 := hTP _ hw9; exact exec_load_blk 24 _ rfl _ rfl _ _ ((HL3.keep hw9).blk 0 rfl) _ Try.underlying24 rfl rg_info); simp only [Act.put, List.setIfInBounds_toArray, List.set_cons_zero, List.set_cons_succ])
           | (apply SeqT.pure; rfl; (intro w9 hw9; go_simp; with_reducible rfl); simp only [Act.put, List.setIfInBounds_toArray, List.set_cons_zero, List.set_cons_succ])))
    all_goals first | apply SeqT.two | apply SeqT.one
    all_goals first
      | (refine EffT.is (some 28) rfl ?_
         apply EffT.go
         · rfl
         intro KE hKE
         go_wp2_with fail
         refine (entry15_any _ _ _).mono ?_
         rintro e wd ⟨rfl, hb⟩
         have hQ' := below_trans hQ hb hQ.size
         refine hKE _ _ (hTP' _ hQ') ?_
         clear hKE KE hQ
         try replace hS := hS.keep hb
         try replace hR := hR.keep hb
         try replace hZ := hZ.keep hb
         clear hb
         try clear wc
         obtain ⟨wc, rfl⟩ : ∃ z, z = wd := ⟨_, rfl⟩
         have hQ := hQ'
         clear hQ'
         go_wp2_with (first
           | (apply SeqT.skip; rfl; simp only [Act.put, List.setIfInBounds_toArray, List.set_cons_zero, List.set_cons_succ])
           | (apply SeqT.pure; rfl; (intro w9 hw9; have hw9 := hTP _ hw9; exact exec_load_blk 24 _ rfl _ rfl _ _ ((HL3.keep hw9).blk 0 rfl) _ Try.underlying24 rfl rg_info); simp only [Act.put, List.setIfInBounds_toArray, List.set_cons_zero, List.set_cons_succ])
           | (apply SeqT.pure; rfl; (intro w9 hw9; go_simp; with_reducible rfl); simp only [Act.put, List.setIfInBounds_toArray, List.set_cons_zero, List.set_cons_succ])))
      | (refine EffT.is (some 29) rfl ?_
         apply EffT.go
         · rfl
         intro KE hKE
         go_wp2_with fail
         refine eff_abs hKE (fun W' => Below wc.heap.size wc W' ∧ LogAt W' W'.heap.size (some ⟨wc.heap.size, 0, none⟩, 1, 1) [entI 8]) ⟨(Below.refl _ _).alloc (Nat.le_refl _) _, lit_log wc (entI 8)⟩ (fun W' h => hTP' _ (below_trans hQ h.1 hQ.size)) ?_
         rintro wd ⟨hb, hS⟩
         have hQ' := below_trans hQ hb hQ.size
         generalize wc.heap.size = gs at hS ⊢
         have hS0 := hS
         clear hS
         clear hKE KE hQ
         try replace hZ := hZ.keep hb
         clear hb
         try clear wc
         obtain ⟨wc, rfl⟩ : ∃ z, z = wd := ⟨_, rfl⟩
         have hS := hS0
         clear hS0
         have hQ := hQ'
         clear hQ'
         go_wp2_with (first
           | (apply SeqT.skip; rfl; simp only [Act.put, List.setIfInBounds_toArray, List.set_cons_zero, List.set_cons_succ])
           | (apply SeqT.pure; rfl; (intro w9 hw9; have hw9 := hTP _ hw9; exact exec_load_blk 24 _ rfl _ rfl _ _ ((HL3.keep hw9).blk 0 rfl) _ Try.underlying24 rfl rg_info); simp only [Act.put, List.setIfInBounds_toArray, List.set_cons_zero, List.set_cons_succ])
           | (apply SeqT.pure; rfl; (intro w9 hw9; go_simp; with_reducible rfl); simp only [Act.put, List.setIfInBounds_toArray, List.set_cons_zero, List.set_cons_succ])))
      | (refine EffT.is (some 31) rfl ?_
         apply EffT.go
         · rfl
         intro KE hKE
         go_wp2_with fail
         refine (apply_to _ (recL 2 4 1 0 _ [entI 8]) wc (ap3 _) ((HL3.keep hQ).log 0 rfl) hS (by show (1 : Nat) ≤ 1000; decide)).mono ?_
         rintro e wd ⟨sr, rfl, hR0, hb⟩
         have hQ' := below_trans hQ hb hQ.size
         refine hKE _ _ (hTP' _ hQ') ?_
         clear hKE KE hQ
         try replace hS := hS.keep hb
         try replace hZ := hZ.keep hb
         clear hb
         try clear wc
         obtain ⟨wc, rfl⟩ : ∃ z, z = wd := ⟨_, rfl⟩
         have hR := hR0
         clear hR0
         have hQ := hQ'
         clear hQ'
         go_wp2_with (first
           | (apply SeqT.skip; rfl; simp only [Act.put, List.setIfInBounds_toArray, List.set_cons_zero, List.set_cons_succ])
           | (apply SeqT.pure; rfl; (intro w9 hw9; have hw9 := hTP _ hw9; exact exec_load_blk 24 _ rfl _ rfl _ _ ((HL3.keep hw9).blk 0 rfl) _ Try.underlying24 rfl rg_info); simp only [Act.put, List.setIfInBounds_toArray, List.set_cons_zero, List.set_cons_succ])
           | (apply SeqT.pure; rfl; (intro w9 hw9; go_simp; with_reducible rfl); simp only [Act.put, List.setIfInBounds_toArray, List.set_cons_zero, List.set_cons_succ])))
      | (refine EffT.is (some 6) rfl ?_
         apply EffT.go
         · rfl
         intro KE hKE
         go_wp2_with fail
         refine eff_abs hKE (fun W' => Below wc.heap.size wc W' ∧ Blk W' wc.heap.size 24 (rgv reg0 (none, 0, 0))) ⟨(Below.refl _ _).alloc (Nat.le_refl _) _, Blk.new wc 24 (rgv reg0 (none, 0, 0))⟩ (fun W' h => hTP' _ (below_trans hQ h.1 hQ.size)) ?_
         rintro wd ⟨hb, hZ0⟩
         have hQ' := below_trans hQ hb hQ.size
         have hgz := hQ.size
         generalize wc.heap.size = gz at hZ0 hgz ⊢
         clear hKE KE hQ
         try replace hS := hS.keep hb
         try replace hR := hR.keep hb
         clear hb
         try clear wc
         obtain ⟨wc, rfl⟩ : ∃ z, z = wd := ⟨_, rfl⟩
         have hZ := hZ0
         clear hZ0
         have hQ := hQ'
         clear hQ'
         go_wp2_with (first
           | (apply SeqT.skip; rfl; simp only [Act.put, List.setIfInBounds_toArray, List.set_cons_zero, List.set_cons_succ])
           | (apply SeqT.pure; rfl; (intro w9 hw9; have hw9 := hTP _ hw9; exact exec_load_blk 24 _ rfl _ rfl _ _ ((HL3.keep hw9).blk 0 rfl) _ Try.underlying24 rfl rg_info); simp only [Act.put, List.setIfInBounds_toArray, List.set_cons_zero, List.set_cons_succ])
           | (apply SeqT.pure; rfl; (intro w9 hw9; go_simp; with_reducible rfl); simp only [Act.put, List.setIfInBounds_toArray, List.set_cons_zero, List.set_cons_succ])))
    all_goals first | apply SeqT.two | apply SeqT.one
    all_goals first
      | (refine EffT.is (some 28) rfl ?_
         apply EffT.go
         · rfl
         intro KE hKE
         go_wp2_with fail
         refine (entry15_any _ _ _).mono ?_
         rintro e wd ⟨rfl, hb⟩
         have hQ' := below_trans hQ hb hQ.size
         refine hKE _ _ (hTP' _ hQ') ?_
         clear hKE KE hQ
         try replace hS := hS.keep hb
         try replace hR := hR.keep hb
         try replace hZ := hZ.keep hb
         clear hb
         try clear wc
         obtain ⟨wc, rfl⟩ : ∃ z, z = wd := ⟨_, rfl⟩
         have hQ := hQ'
         clear hQ'
         go_wp2_with (first
           | (apply SeqT.skip; rfl; simp only [Act.put, List.setIfInBounds_toArray, List.set_cons_zero, List.set_cons_succ])
           | (apply SeqT.pure; rfl; (intro w9 hw9; have hw9 := hTP _ hw9; exact exec_load_blk 24 _ rfl _ rfl _ _ ((HL3.keep hw9).blk 0 rfl) _ Try.underlying24 rfl rg_info); simp only [Act.put, List.setIfInBounds_toArray, List.set_cons_zero, List.set_cons_succ])
           | (apply SeqT.pure; rfl; (intro w9 hw9; go_simp; with_reducible rfl); simp only [Act.put, List.setIfInBounds_toArray, List.set_cons_zero, List.set_cons_succ])))
      | (refine EffT.is (some 29) rfl ?_
         apply EffT.go
         · rfl
         intro KE hKE
         go_wp2_with fail
         refine eff_abs hKE (fun W' => Below wc.heap.size wc W' ∧ LogAt W' W'.heap.size (some ⟨wc.heap.size, 0, none⟩, 1, 1) [entI 8]) ⟨(Below.refl _ _).alloc (Nat.le_refl _) _, lit_log wc (entI 8)⟩ (fun W' h => hTP' _ (below_trans hQ h.1 hQ.size)) ?_
         rintro wd ⟨hb, hS⟩
         have hQ' := below_trans hQ hb hQ.size
         generalize wc.heap.size = gs at hS ⊢
         have hS0 := hS
         clear hS
         clear hKE KE hQ
         try replace hZ := hZ.keep hb
         clear hb
         try clear wc
         obtain ⟨wc, rfl⟩ : ∃ z, z = wd := ⟨_, rfl⟩
         have hS := hS0
         clear hS0
         have hQ := hQ'
         clear hQ'
         go_wp2_with (first
           | (apply SeqT.skip; rfl; simp only [Act.put, List.setIfInBounds_toArray, List.set_cons_zero, List.set_cons_succ])
           | (apply SeqT.pure; rfl; (intro w9 hw9; have hw9 := hTP _ hw9; exact exec_load_blk 24 _ rfl _ rfl _ _ ((HL3.keep hw9).blk 0 rfl) _ Try.underlying24 rfl rg_info); simp only [Act.put, List.setIfInBounds_toArray, List.set_cons_zero, List.set_cons_succ])
           | (apply SeqT.pure; rfl; (intro w9 hw9; go_simp; with_reducible rfl); simp only [Act.put, List.setIfInBounds_toArray, List.set_cons_zero, List.set_cons_succ])))
      | (refine EffT.is (some 31) rfl ?_
         apply EffT.go
         · rfl
         intro KE hKE
         go_wp2_with fail
         refine (apply_to _ (recL 2 4 1 0 _ [entI 8]) wc (ap3 _) ((HL3.keep hQ).log 0 rfl) hS (by show (1 : Nat) ≤ 1000; decide)).mono ?_
         rintro e wd ⟨sr, rfl, hR0, hb⟩
         have hQ' := below_trans hQ hb hQ.size
         refine hKE _ _ (hTP' _ hQ') ?_
         clear hKE KE hQ
         try replace hS := hS.keep hb
         try replace hZ := hZ.keep hb
         clear hb
         try clear wc
         obtain ⟨wc, rfl⟩ : ∃ z, z = wd := ⟨_, rfl⟩
         have hR := hR0
         clear hR0
         have hQ := hQ'
         clear hQ'
         go_wp2_with (first
           | (apply SeqT.skip; rfl; simp only [Act.put, List.setIfInBounds_toArray, List.set_cons_zero, List.set_cons_succ])
           | (apply SeqT.pure; rfl; (intro w9 hw9; have hw9 := hTP _ hw9; exact exec_load_blk 24 _ rfl _ rfl _ _ ((HL3.keep hw9).blk 0 rfl) _ Try.underlying24 rfl rg_info); simp only [Act.put, List.setIfInBounds_toArray, List.set_cons_zero, List.set_cons_succ])
           | (apply SeqT.pure; rfl; (intro w9 hw9; go_simp; with_reducible rfl); simp only [Act.put, List.setIfInBounds_toArray, List.set_cons_zero, List.set_cons_succ])))
      | (refine EffT.is (some 6) rfl ?_
         apply EffT.go
         · rfl
         intro KE hKE
         go_wp2_with fail
         refine eff_abs hKE (fun W' => Below wc.heap.size wc W' ∧ Blk W' wc.heap.size 24 (rgv reg0 (none, 0, 0))) ⟨(Below.refl _ _).alloc (Nat.le_refl _) _, Blk.new wc 24 (rgv reg0 (none, 0, 0))⟩ (fun W' h => hTP' _ (below_trans hQ h.1 hQ.size)) ?_
         rintro wd ⟨hb, hZ0⟩
         have hQ' := below_trans hQ hb hQ.size
         have hgz := hQ.size
         generalize wc.heap.size = gz at hZ0 hgz ⊢
         clear hKE KE hQ
         try replace hS := hS.keep hb
         try replace hR := hR.keep hb
         clear hb
         try clear wc
         obtain ⟨wc, rfl⟩ : ∃ z, z = wd := ⟨_, rfl⟩
         have hZ := hZ0
         clear hZ0
         have hQ := hQ'
         clear hQ'
         go_wp2_with (first
           | (apply SeqT.skip; rfl; simp only [Act.put, List.setIfInBounds_toArray, List.set_cons_zero, List.set_cons_succ])
           | (apply SeqT.pure; rfl; (intro w9 hw9; have hw9 := hTP _ hw9; exact exec_load_blk 24 _ rfl _ rfl _ _ ((HL3.keep hw9).blk 0 rfl) _ Try.underlying24 rfl rg_info); simp only [Act.put, List.setIfInBounds_toArray, List.set_cons_zero, List.set_cons_succ])
           | (apply SeqT.pure; rfl; (intro w9 hw9; go_simp; with_reducible rfl); simp only [Act.put, List.setIfInBounds_toArray, List.set_cons_zero, List.set_cons_succ])))
    all_goals first | apply SeqT.two | apply SeqT.one
    all_goals
      refine EffT.is none rfl ?_
      apply EffT.go
      · rfl
      intro KE hKE
      refine wp_store_own 24 _ _ rfl _ (rgv rC sr) rfl rfl _ _ hZ rg_info rfl (rgv_one _ _) ?_
      intro wd B5 g5
      have hQ' := hQ.trans (below_grown g5 hgz hQ.size)
      have hR5 := hR.stored hZ (by simp [rgv]) g5
      refine hKE _ _ (hTP' _ hQ') ?_
      clear hKE KE
      go_wp2_with (first
        | (apply SeqT.skip; rfl; simp only [Act.put, List.setIfInBounds_toArray, List.set_cons_zero, List.set_cons_succ])
        | (apply SeqT.pure; rfl; (intro w9 hw9; go_simp; with_reducible rfl); simp only [Act.put, List.setIfInBounds_toArray, List.set_cons_zero, List.set_cons_succ]))
      apply SeqT.done
      exact HK gz gs sr wd ⟨hQ', hgz, B5, hR5⟩
  intro gC kC sC w4 ⟨hb4, hge4, B4, R4⟩
  have hw4 := below_trans hw3 hb4 hw3.size
  have HL4 := (HL3.keep hb4).add B4 R4
  refine hKP _ _ (hTP' _ hb4) ?_
  clear hKP hTP hTP' B4 R4 hb4 hge4 HL3 hw3
  try clear wq
  go_wp2_with ((with_reducible refine at_list ?_); refine wpList_load_blk rfl 24 _ rfl _ rfl _ _ _ (HL4.blk 0 rfl) Try.underlying24 rfl rg_info ?_)
  refine (apply_to _ (recL 3 0 0 1 (none, 0, 0) []) _ (ap4 _) (HL4.log 0 rfl) LogAt.nil (by simp [recL])).mono ?_
  rintro e w5 ⟨sD, rfl, hR, hb⟩
  have hw5 := below_trans hw4 hb hw4.size
  have HL5 := HL4.keep hb
  clear HL4 hb
  have hz5 := hw5.size
  go_wp2_with ((with_reducible refine at_list ?_); (refine wpList_store_own rfl 24 _ _ rfl _ (rgv rD sD) rfl rfl _ _ (Blk.new w5 24 (rgv reg0 (none, 0, 0))) rg_info rfl (rgv_one _ _) ?_; intro w6 B6 g6))
  have hb6 := below_new g6
  have hw6 := below_trans hw5 hb6 hz5
  have HL6 := (HL5.keep hb6).add B6 (hR.keep hb6)
  clear HL5 B6 g6 hR hb6 hw5 hz5
  generalize w5.heap.size = gD at HL6 ⊢
  obtain ⟨wq, rfl⟩ : ∃ z, z = w6 := ⟨_, rfl⟩
  refine wp_region_t (.quiet 0 (.two 1 8 (.two 2 8 (.quiet 3 (.two 4 8 (.quiet 5 (.quiet 6 (.quiet 7 (.one 8 (.one 9 (.quiet 10 .done)))))) (.one 4 (.quiet 5 (.quiet 6 (.quiet 7 (.one 9 (.quiet 10 .done)))))))) (.one 2 (.quiet 3 (.one 4 (.quiet 5 (.quiet 6 (.quiet 7 (.one 9 (.quiet 10 .done))))))))) (.one 1 (.one 2 (.quiet 3 (.one 4 (.quiet 5 (.quiet 6 (.quiet 7 (.one 9 (.quiet 10 .done))))))))))) (fun w' => Below wq.heap.size wq w') (by kernel_rfl) (by kernel_rfl) (by kernel_rfl) (by kernel_rfl) ((Below.refl _ _).drew) rfl ?_
  intro KP RP TP hKP hTP hTP'
  simp only [Sch.fill, nth]
  apply merge3 (Inv := fun g k s w' => Below wq.heap.size wq w' ∧ wq.heap.size ≤ g ∧ Blk w' g 24 (rgv rE s) ∧ LogAt w' w'.heap.size s (rE).log) (K := KP)
  · intro HK
    have hQ : Below wq.heap.size wq wq.drew := (Below.refl _ _).drew
    generalize wq.drew = wc at hQ ⊢
    go_wp2_with (first
      | (apply SeqT.skip; rfl; simp only [Act.put, List.setIfInBounds_toArray, List.set_cons_zero, List.set_cons_succ])
      | (apply SeqT.pure; rfl; (intro w9 hw9; have hw9 := hTP _ hw9; exact exec_load_blk 24 _ rfl _ rfl _ _ ((HL6.keep hw9).blk 0 rfl) _ Try.underlying24 rfl rg_info); simp only [Act.put, List.setIfInBounds_toArray, List.set_cons_zero, List.set_cons_succ])
      | (apply SeqT.pure; rfl; (intro w9 hw9; go_simp; with_reducible rfl); simp only [Act.put, List.setIfInBounds_toArray, List.set_cons_zero, List.set_cons_succ]))
    all_goals first | apply SeqT.two | apply SeqT.one
    all_goals first
      | (refine EffT.is (some 42) rfl ?_
         apply EffT.go
         · rfl
         intro KE hKE
         go_wp2_with fail
         refine (entry15_any _ _ _).mono ?_
         rintro e wd ⟨rfl, hb⟩
         have hQ' := below_trans hQ hb hQ.size
         refine hKE _ _ (hTP' _ hQ') ?_
         clear hKE KE hQ
         try replace hS := hS.keep hb
         try replace hR := hR.keep hb
         try replace hZ := hZ.keep hb
         clear hb
         try clear wc
         obtain ⟨wc, rfl⟩ : ∃ z, z = wd := ⟨_, rfl⟩
         have hQ := hQ'
         clear hQ'
         go_wp2_with (first
           | (apply SeqT.skip; rfl; simp only [Act.put, List.setIfInBounds_toArray, List.set_cons_zero, List.set_cons_succ])
           | (apply SeqT.pure; rfl; (intro w9 hw9; have hw9 := hTP _ hw9; exact exec_load_blk 24 _ rfl _ rfl _ _ ((HL6.keep hw9).blk 0 rfl) _ Try.underlying24 rfl rg_info); simp only [Act.put, List.setIfInBounds_toArray, List.set_cons_zero, List.set_cons_succ])
           | (apply SeqT.pure; rfl; (intro w9 hw9; go_simp; with_reducible rfl); simp only [Act.put, List.setIfInBounds_toArray, List.set_cons_zero, List.set_cons_succ])))
      | (refine EffT.is (some 43) rfl ?_
         apply EffT.go
         · rfl
         intro KE hKE
         go_wp2_with fail
         refine eff_abs hKE (fun W' => Below wc.heap.size wc W' ∧ LogAt W' W'.heap.size (some ⟨wc.heap.size, 0, none⟩, 1, 1) [entI 7]) ⟨(Below.refl _ _).alloc (Nat.le_refl _) _, lit_log wc (entI 7)⟩ (fun W' h => hTP' _ (below_trans hQ h.1 hQ.size)) ?_
         rintro wd ⟨hb, hS⟩
         have hQ' := below_trans hQ hb hQ.size
         generalize wc.heap.size = gs at hS ⊢
         have hS0 := hS
         clear hS
         clear hKE KE hQ
         try replace hZ := hZ.keep hb
         clear hb
         try clear wc
         obtain ⟨wc, rfl⟩ : ∃ z, z = wd := ⟨_, rfl⟩
         have hS := hS0
         clear hS0
         have hQ := hQ'
         clear hQ'
         go_wp2_with (first
           | (apply SeqT.skip; rfl; simp only [Act.put, List.setIfInBounds_toArray, List.set_cons_zero, List.set_cons_succ])
           | (apply SeqT.pure; rfl; (intro w9 hw9; have hw9 := hTP _ hw9; exact exec_load_blk 24 _ rfl _ rfl _ _ ((HL6.keep hw9).blk 0 rfl) _ Try.underlying24 rfl rg_info); simp only [Act.put, List.setIfInBounds_toArray, List.set_cons_zero, List.set_cons_succ])
           | (apply SeqT.pure; rfl; (intro w9 hw9; go_simp; with_reducible rfl); simp only [Act.put, List.setIfInBounds_toArray, List.set_cons_zero, List.set_cons_succ])))
      | (refine EffT.is (some 45) rfl ?_
         apply EffT.go
         · rfl
         intro KE hKE
         go_wp2_with fail
         refine (apply_to _ (recL 2 7 0 0 _ [entI 7]) wc (ap5 _) ((HL6.keep hQ).log 0 rfl) hS (by show (1 : Nat) ≤ 1000; decide)).mono ?_
         rintro e wd ⟨sr, rfl, hR0, hb⟩
         have hQ' := below_trans hQ hb hQ.size
         refine hKE _ _ (hTP' _ hQ') ?_
         clear hKE KE hQ
         try replace hS := hS.keep hb
         try replace hZ := hZ.keep hb
         clear hb
         try clear wc
         obtain ⟨wc, rfl⟩ : ∃ z, z = wd := ⟨_, rfl⟩
         have hR := hR0
         clear hR0
         have hQ := hQ'
         clear hQ'
         go_wp2_with (first
           | (apply SeqT.skip; rfl; simp only [Act.put, List.setIfInBounds_toArray, List.set_cons_zero, List.set_cons_succ])
           | (apply SeqT.pure; rfl; (intro w9 hw9; have hw9 := hTP _ hw9; exact exec_load_blk 24 _ rfl _ rfl _ _ ((HL6.keep hw9).blk 0 rfl) _ Try.underlying24 rfl rg_info); simp only [Act.put, List.setIfInBounds_toArray, List.set_cons_zero, List.set_cons_succ])
           | (apply SeqT.pure; rfl; (intro w9 hw9; go_simp; with_reducible rfl); simp only [Act.put, List.setIfInBounds_toArray, List.set_cons_zero, List.set_cons_succ])))
      | (refine EffT.is (some 10) rfl ?_
         apply EffT.go
         · rfl
         intro KE hKE
         go_wp2_with fail
         refine eff_abs hKE (fun W' => Below wc.heap.size wc W' ∧ Blk W' wc.heap.size 24 (rgv reg0 (none, 0, 0))) ⟨(Below.refl _ _).alloc (Nat.le_refl _) _, Blk.new wc 24 (rgv reg0 (none, 0, 0))⟩ (fun W' h => hTP' _ (below_trans hQ h.1 hQ.size)) ?_
         rintro wd ⟨hb, hZ0⟩
         have hQ' := below_trans hQ hb hQ.size
         have hgz := hQ.size
         generalize wc.heap.size = gz at hZ0 hgz ⊢
         clear hKE KE hQ
         try replace hS := hS.keep hb
         try replace hR := hR.keep hb
         clear hb
         try clear wc
         obtain ⟨wc, rfl⟩ : ∃ z, z = wd := ⟨_, rfl⟩
         have hZ := hZ0
         clear hZ0
         have hQ := hQ'
         clear hQ'
         go_wp2_with (first
           | (apply SeqT.skip; rfl; simp only [Act.put, List.setIfInBounds_toArray, List.set_cons_zero, List.set_cons_succ])
           | (apply SeqT.pure; rfl; (intro w9 hw9; have hw9 := hTP _ hw9; exact exec_load_blk 24 _ rfl _ rfl _ _ ((HL6.keep hw9).blk 0 rfl) _ Try.underlying24 rfl rg_info); simp only [Act.put, List.setIfInBounds_toArray, List.set_cons_zero, List.set_cons_succ])
           | (apply SeqT.pure; rfl; (intro w9 hw9; go_simp; with_reducible rfl); simp only [Act.put, List.setIfInBounds_toArray, List.set_cons_zero, List.set_cons_succ])))
    all_goals first | apply SeqT.two | apply SeqT.one
    all_goals first
      | (refine EffT.is (some 42) rfl ?_
         apply EffT.go
         · rfl
         intro KE hKE
         go_wp2_with fail
         refine (entry15_any _ _ _).mono ?_
         rintro e wd ⟨rfl, hb⟩
         have hQ' := below_trans hQ hb hQ.size
         refine hKE _ _ (hTP' _ hQ') ?_
         clear hKE KE hQ
         try replace hS := hS.keep hb
         try replace hR := hR.keep hb
         try replace hZ := hZ.keep hb
         clear hb
         try clear wc
         obtain ⟨wc, rfl⟩ : ∃ z, z = wd := ⟨_, rfl⟩
         have hQ := hQ'
         clear hQ'
         go_wp2_with (first
           | (apply SeqT.skip; rfl; simp only [Act.put, List.setIfInBounds_toArray, List.set_cons_zero, List.set_cons_succ])
           | (apply SeqT.pure; rfl; (intro w9 hw9; have hw9 := hTP _ hw9; exact exec_load_blk 24 _ rfl _ rfl _ _ ((HL6.keep hw9).blk 0 rfl) _ Try.underlying24 rfl rg_info); simp only [Act.put, List.setIfInBounds_toArray, List.set_cons_zero, List.set_cons_succ])
           | (apply SeqT.pure; rfl; (intro w9 hw9; go_simp; with_reducible rfl); simp only [Act.put, List.setIfInBounds_toArray, List.set_cons_zero, List.set_cons_succ])))
      | (refine EffT.is (some 43) rfl ?_
         apply EffT.go
         · rfl
         intro KE hKE
         go_wp2_with fail
         refine eff_abs hKE (fun W' => Below wc.heap.size wc W' ∧ LogAt W' W'.heap.size (some ⟨wc.heap.size, 0, none⟩, 1, 1) [entI 7]) ⟨(Below.refl _ _).alloc (Nat.le_refl _) _, lit_log wc (entI 7)⟩ (fun W' h => hTP' _ (below_trans hQ h.1 hQ.size)) ?_
         rintro wd ⟨hb, hS⟩
         have hQ' := below_trans hQ hb hQ.size
         generalize wc.heap.size = gs at hS ⊢
         have hS0 := hS
         clear hS
         clear hKE KE hQ
         try replace hZ := hZ.keep hb
         clear hb
         try clear wc
         obtain ⟨wc, rfl⟩ : ∃ z, z = wd := ⟨_, rfl⟩
         have hS := hS0
         clear hS0
         have hQ := hQ'
         clear hQ'
         go_wp2_with (first
           | (apply SeqT.skip; rfl; simp only [Act.put, List.setIfInBounds_toArray, List.set_cons_zero, List.set_cons_succ])
           | (apply SeqT.pure; rfl; (intro w9 hw9; have hw9 := hTP _ hw9; exact exec_load_blk 24 _ rfl _ rfl _ _ ((HL6.keep hw9).blk 0 rfl) _ Try.underlying24 rfl rg_info); simp only [Act.put, List.setIfInBounds_toArray, List.set_cons_zero, List.set_cons_succ])
           | (apply SeqT.pure; rfl; (intro w9 hw9; go_simp; with_reducible rfl); simp only [Act.put, List.setIfInBounds_toArray, List.set_cons_zero, List.set_cons_succ])))
      | (refine EffT.is (some 45) rfl ?_
         apply EffT.go
         · rfl
         intro KE hKE
         go_wp2_with fail
         refine (apply_to _ (recL 2 7 0 0 _ [entI 7]) wc (ap5 _) ((HL6.keep hQ).log 0 rfl) hS (by show (1 : Nat) ≤ 1000; decide)).mono ?_
         rintro e wd ⟨sr, rfl, hR0, hb⟩
         have hQ' := below_trans hQ hb hQ.size
         refine hKE _ _ (hTP' _ hQ') ?_
         clear hKE KE hQ
         try replace hS := hS.keep hb
         try replace hZ := hZ.keep hb
         clear hb
         try clear wc
         obtain ⟨wc, rfl⟩ : ∃ z, z = wd := ⟨_, rfl⟩
         have hR := hR0
         clear hR0
         have hQ := hQ'
         clear hQ'
         go_wp2_with (first
           | (apply SeqT.skip; rfl; simp only [Act.put, List.setIfInBounds_toArray, List.set_cons_zero, List.set_cons_succ])
           | (apply SeqT.pure; rfl; (intro w9 hw9; have hw9 := hTP _ hw9; exact exec_load_blk 24 _ rfl _ rfl _ _ ((HL6.keep hw9).blk 0 rfl) _ Try.underlying24 rfl rg_info); simp only [Act.put, List.setIfInBounds_toArray, List.set_cons_zero, List.set_cons_succ])
           | (apply SeqT.pure; rfl; (intro w9 hw9; go_simp; with_reducible rfl); simp only [Act.put, List.setIfInBounds_toArray, List.set_cons_zero, List.set_cons_succ])))
      | (refine EffT.is (some 10) rfl ?_
         apply EffT.go
         · rfl
         intro KE hKE
         go_wp2_with fail
         refine eff_abs hKE (fun W' => Below wc.heap.size wc W' ∧ Blk W' wc.heap.size 24 (rgv reg0 (none, 0, 0))) ⟨(Below.refl _ _).alloc (Nat.le_refl _) _, Blk.new wc 24 (rgv reg0 (none, 0, 0))⟩ (fun W' h => hTP' _ (below_trans hQ h.1 hQ.size)) ?_
         rintro wd ⟨hb, hZ0⟩
         have hQ' := below_trans hQ hb hQ.size
         have hgz := hQ.size
         generalize wc.heap.size = gz at hZ0 hgz ⊢
         clear hKE KE hQ
         try replace hS := hS.keep hb
         try replace hR := hR.keep hb
         clear hb
         try clear wc
         obtain ⟨wc, rfl⟩ : ∃ z, z = wd := ⟨_, rfl⟩
         have hZ := hZ0
         clear hZ0
         have hQ := hQ'
         clear hQ'
         go_wp2_with (first
           | (apply SeqT.skip; rfl; simp only [Act.put, List.setIfInBounds_toArray, List.set_cons_zero, List.set_cons_succ])
           | (apply SeqT.pure; rfl; (intro w9 hw9; have hw9 := hTP _ hw9; exact exec_load_blk 24 _ rfl _ rfl _ _ ((HL6.keep hw9).blk 0 rfl) _ Try.underlying24 rfl rg_info); simp only [Act.put, List.setIfInBounds_toArray, List.set_cons_zero, List.set_cons_succ])
           | (apply SeqT.pure; rfl; (intro w9 hw9; go_simp; with_reducible rfl); simp only [Act.put, List.setIfInBounds_toArray, List.set_cons_zero, List.set_cons_succ])))
    all_goals first | apply SeqT.two | apply SeqT.one
    all_goals first
      | (refine EffT.is (some 42) rfl ?_
         apply EffT.go
         · rfl
         intro KE hKE
         go_wp2_with fail
         refine (entry15_any _ _ _).mono ?_
         rintro e wd ⟨rfl, hb⟩
         have hQ' := below_trans hQ hb hQ.size
         refine hKE _ _ (hTP' _ hQ') ?_
         clear hKE KE hQ
         try replace hS := hS.keep hb
         try replace hR := hR.keep hb
         try replace hZ := hZ.keep hb
         clear hb
         try clear wc
         obtain ⟨wc, rfl⟩ : ∃ z, z = wd := ⟨_, rfl⟩
         have hQ := hQ'
         clear hQ'
         go_wp2_with (first
           | (apply SeqT.skip; rfl; simp only [Act.put, List.setIfInBounds_toArray, List.set_cons_zero, List.set_cons_succ])
           | (apply SeqT.pure; rfl; (intro w9 hw9; have hw9 := hTP _ hw9; exact exec_load_blk 24 _ rfl _ rfl _ _ ((HL6.keep hw9).blk 0 rfl) _ Try.underlying24 rfl rg_info); simp only [Act.put, List.setIfInBounds_toArray, List.set_cons_zero, List.set_cons_succ])
           | (apply SeqT.pure; rfl; (intro w9 hw9; go_simp; with_reducible rfl); simp only [Act.put, List.setIfInBounds_toArray, List.set_cons_zero, List.set_cons_succ])))
      | (refine EffT.is (some 43) rfl ?_
         apply EffT.go
         · rfl
         intro KE hKE
         go_wp2_with fail
         refine eff_abs hKE (fun W' => Below wc.heap.size wc W' ∧ LogAt W' W'.heap.size (some ⟨wc.heap.size, 0, none⟩, 1, 1) [entI 7]) ⟨(Below.refl _ _).alloc (Nat.le_refl _) _, lit_log wc (entI 7)⟩ (fun W' h => hTP' _ (below_trans hQ h.1 hQ.size)) ?_
         rintro wd ⟨hb, hS⟩
         have hQ' := below_trans hQ hb hQ.size
         generalize wc.heap.size = gs at hS ⊢
         have hS0 := hS
         clear hS
         clear hKE KE hQ
         try replace hZ := hZ.keep hb
         clear hb
         try clear wc
         obtain ⟨wc, rfl⟩ : ∃ z, z = wd := ⟨_, rfl⟩
         have hS := hS0
         clear hS0
         have hQ := hQ'
         clear hQ'
         go_wp2_with (first
           | (apply SeqT.skip; rfl; simp only [Act.put, List.setIfInBounds_toArray, List.set_cons_zero, List.set_cons_succ])
           | (apply SeqT.pure; rfl; (intro w9 hw9; have hw9 := hTP _ hw9; exact exec_load_blk 24 _ rfl _ rfl _ _ ((HL6.keep hw9).blk 0 rfl) _ Try.underlying24 rfl rg_info); simp only [Act.put, List.setIfInBounds_toArray, List.set_cons_zero, List.set_cons_succ])
           | (apply SeqT.pure; rfl; (intro w9 hw9; go_simp; with_reducible rfl); simp only [Act.put, List.setIfInBounds_toArray, List.set_cons_zero, List.set_cons_succ])))
      | (refine EffT.is (some 45) rfl ?_
         apply EffT.go
         · rfl
         intro KE hKE
         go_wp2_with fail
         refine (apply_to _ (recL 2 7 0 0 _ [entI 7]) wc (ap5 _) ((HL6.keep hQ).log 0 rfl) hS (by show (1 : Nat) ≤ 1000; decide)).mono ?_
         rintro e wd ⟨sr, rfl, hR0, hb⟩
         have hQ' := below_trans hQ hb hQ.size
         refine hKE _ _ (hTP' _ hQ') ?_
         clear hKE KE hQ
         try replace hS := hS.keep hb
         try replace hZ := hZ.keep hb
         clear hb
         try clear wc
         obtain ⟨wc, rfl⟩ : ∃ z, z = wd := ⟨_, rfl⟩
         have hR := hR0
         clear hR0
         have hQ := hQ'
         clear hQ'
         go_wp2_with (first
           | (apply SeqT.skip; rfl; simp only [Act.put, List.setIfInBounds_toArray, List.set_cons_zero, List.set_cons_succ])
           | (apply SeqT.pure; rfl; (intro w9 hw9; have hw9 := hTP _ hw9; exact exec_load_blk 24 _ rfl _ rfl _ _ ((HL6.keep hw9).blk 0 rfl) _ Try.underlying24 rfl rg_info); simp only [Act.put, List.setIfInBounds_toArray, List.set_cons_zero, List.set_cons_succ])
           | (apply SeqT.pure; rfl; (intro w9 hw9; go_simp; with_reducible rfl); simp only [Act.put, List.setIfInBounds_toArray, List.set_cons_zero, List.set_cons_succ])))
      | (refine EffT.is (some 10) rfl ?_
         apply EffT.go
         · rfl
         intro KE hKE
         go_wp2_with fail
         refine eff_abs hKE (fun W' => Below wc.heap.size wc W' ∧ Blk W' wc.heap.size 24 (rgv reg0 (none, 0, 0))) ⟨(Below.refl _ _).alloc (Nat.le_refl _) _, Blk.new wc 24 (rgv reg0 (none, 0, 0))⟩ (fun W' h => hTP' _ (below_trans hQ h.1 hQ.size)) ?_
         rintro wd ⟨hb, hZ0⟩
         have hQ' := below_trans hQ hb hQ.size
         have hgz := hQ.size
         generalize wc.heap.size = gz at hZ0 hgz ⊢
         clear hKE KE hQ
         try replace hS := hS.keep hb
         try replace hR := hR.keep hb
         clear hb
         try clear wc
         obtain ⟨wc, rfl⟩ : ∃ z, z = wd := ⟨_, rfl⟩
         have hZ := hZ0
         clear hZ0
         have hQ := hQ'
         clear hQ'
         go_wp2_with (first
           | (apply SeqT.skip; rfl; simp only [Act.put, List.setIfInBounds_toArray, List.set_cons_zero, List.set_cons_succ])
           | (apply SeqT.pure; rfl; (intro w9 hw9; have hw9 := hTP _ hw9; exact exec_load_blk 24 _ rfl _ rfl _ _ ((HL6.keep hw9).blk 0 rfl) _ Try.underlying24 rfl rg_info); simp only [Act.put, List.setIfInBounds_toArray, List.set_cons_zero, List.set_cons_succ])
           | (apply SeqT.pure; rfl; (intro w9 hw9; go_simp; with_reducible rfl); simp only [Act.put, List.setIfInBounds_toArray, List.set_cons_zero, List.set_cons_succ])))
    all_goals first | apply SeqT.two | apply SeqT.one
    all_goals first
      | (refine EffT.is (some 42) rfl ?_
         apply EffT.go
         · rfl
         intro KE hKE
         go_wp2_with fail
         refine (entry15_any _ _ _).mono ?_
         rintro e wd ⟨rfl, hb⟩
         have hQ' := below_trans hQ hb hQ.size
         refine hKE _ _ (hTP' _ hQ') ?_
         clear hKE KE hQ
         try replace hS := hS.keep hb
         try replace hR := hR.keep hb
         try replace hZ := hZ.keep hb
         clear hb
         try clear wc
         obtain ⟨wc, rfl⟩ : ∃ z, z = wd := ⟨_, rfl⟩
         have hQ := hQ'
         clear hQ'
         go_wp2_with (first
           | (apply SeqT.skip; rfl; simp only [Act.put, List.setIfInBounds_toArray, List.set_cons_zero, List.set_cons_succ])
           | (apply SeqT.pure; rfl; (intro w9 hw9; have hw9 := hTP _ hw9; exact exec_load_blk 24 _ rfl _ rfl _ _ ((HL6.keep hw9).blk 0 rfl) _ Try.underlying24 rfl rg_info); simp only [Act.put, List.setIfInBounds_toArray, List.set_cons_zero, List.set_cons_succ])
           | (apply SeqT.pure; rfl; (intro w9 hw9; go_simp; with_reducible rfl); simp only [Act.put, List.setIfInBounds_toArray, List.set_cons_zero, List.set_cons_succ])))
      | (refine EffT.is (some 43) rfl ?_
         apply EffT.go
         · rfl
         intro KE hKE
         go_wp2_with fail
         refine eff_abs hKE (fun W' => Below wc.heap.size wc W' ∧ LogAt W' W'.heap.size (some ⟨wc.heap.size, 0, none⟩, 1, 1) [entI 7]) ⟨(Below.refl _ _).alloc (Nat.le_refl _) _, lit_log wc (entI 7)⟩ (fun W' h => hTP' _ (below_trans hQ h.1 hQ.size)) ?_
         rintro wd ⟨hb, hS⟩
         have hQ' := below_trans hQ hb hQ.size
         generalize wc.heap.size = gs at hS ⊢
         have hS0 := hS
         clear hS
         clear hKE KE hQ
         try replace hZ := hZ.keep hb
         clear hb
         try clear wc
         obtain ⟨wc, rfl⟩ : ∃ z, z = wd := ⟨_, rfl⟩
         have hS := hS0
         clear hS0
         have hQ := hQ'
         clear hQ'
         go_wp2_with (first
           | (apply SeqT.skip; rfl; simp only [Act.put, List.setIfInBounds_toArray, List.set_cons_zero, List.set_cons_succ])
           | (apply SeqT.pure; rfl; (intro w9 hw9; have hw9 := hTP _ hw9; exact exec_load_blk 24 _ rfl _ rfl _ _ ((HL6.keep hw9).blk 0 rfl) _ Try.underlying24 rfl rg_info); simp only [Act.put, List.setIfInBounds_toArray, List.set_cons_zero, List.set_cons_succ])
           | (apply SeqT.pure; rfl; (intro w9 hw9; go_simp; with_reducible rfl); simp only [Act.put, List.setIfInBounds_toArray, List.set_cons_zero, List.set_cons_succ])))
      | (refine EffT.is (some 45) rfl ?_
         apply EffT.go
         · rfl
         intro KE hKE
         go_wp2_with fail
         refine (apply_to _ (recL 2 7 0 0 _ [entI 7]) wc (ap5 _) ((HL6.keep hQ).log 0 rfl) hS (by show (1 : Nat) ≤ 1000; decide)).mono ?_
         rintro e wd ⟨sr, rfl, hR0, hb⟩
         have hQ' := below_trans hQ hb hQ.size
         refine hKE _ _ (hTP' _ hQ') ?_
         clear hKE KE hQ
         try replace hS := hS.keep hb
         try replace hZ := hZ.keep hb
         clear hb
         try clear wc
         obtain ⟨wc, rfl⟩ : ∃ z, z = wd := ⟨_, rfl⟩
         have hR := hR0
         clear hR0
         have hQ := hQ'
         clear hQ'
         go_wp2_with (first
           | (apply SeqT.skip; rfl; simp only [Act.put, List.setIfInBounds_toArray, List.set_cons_zero, List.set_cons_succ])
           | (apply SeqT.pure; rfl; (intro w9 hw9; have hw9 := hTP _ hw9; exact exec_load_blk 24 _ rfl _ rfl _ _ ((HL6.keep hw9).blk 0 rfl) _ Try.underlying24 rfl rg_info); simp only [Act.put, List.setIfInBounds_toArray, List.set_cons_zero, List.set_cons_succ])
           | (apply SeqT.pure; rfl; (intro w9 hw9; go_simp; with_reducible rfl); simp only [Act.put, List.setIfInBounds_toArray, List.set_cons_zero, List.set_cons_succ])))
      | (refine EffT.is (some 10) rfl ?_
         apply EffT.go
         · rfl
         intro KE hKE
         go_wp2_with fail
         refine eff_abs hKE (fun W' => Below wc.heap.size wc W' ∧ Blk W' wc.heap.size 24 (rgv reg0 (none, 0, 0))) ⟨(Below.refl _ _).alloc (Nat.le_refl _) _, Blk.new wc 24 (rgv reg0 (none, 0, 0))⟩ (fun W' h => hTP' _ (below_trans hQ h.1 hQ.size)) ?_
         rintro wd ⟨hb, hZ0⟩
         have hQ' := below_trans hQ hb hQ.size
         have hgz := hQ.size
         generalize wc.heap.size = gz at hZ0 hgz ⊢
         clear hKE KE hQ
         try replace hS := hS.keep hb
         try replace hR := hR.keep hb
         clear hb
         try clear wc
         obtain ⟨wc, rfl⟩ : ∃ z, z = wd := ⟨_, rfl⟩
         have hZ := hZ0
         clear hZ0
         have hQ := hQ'
         clear hQ'
         go_wp2_with (first
           | (apply SeqT.skip; rfl; simp only [Act.put, List.setIfInBounds_toArray, List.set_cons_zero, List.set_cons_succ])
           | (apply SeqT.pure; rfl; (intro w9 hw9; have hw9 := hTP _ hw9; exact exec_load_blk 24 _ rfl _ rfl _ _ ((HL6.keep hw9).blk 0 rfl) _ Try.underlying24 rfl rg_info); simp only [Act.put, List.setIfInBounds_toArray, List.set_cons_zero, List.set_cons_succ])
           | (apply SeqT.pure; rfl; (intro w9 hw9; go_simp; with_reducible rfl); simp only [Act.put, List.setIfInBounds_toArray, List.set_cons_zero, List.set_cons_succ])))
    all_goals first | apply SeqT.two | apply SeqT.one
    all_goals
      refine EffT.is none rfl ?_
      apply EffT.go
      · rfl
      intro KE hKE
      refine wp_store_own 24 _ _ rfl _ (rgv rE sr) rfl rfl _ _ hZ rg_info rfl (rgv_one _ _) ?_
      intro wd B5 g5
      have hQ' := hQ.trans (below_grown g5 hgz hQ.size)
      have hR5 := hR.stored hZ (by simp [rgv]) g5
      refine hKE _ _ (hTP' _ hQ') ?_
      clear hKE KE
      go_wp2_with (first
        | (apply SeqT.skip; rfl; simp only [Act.put, List.setIfInBounds_toArray, List.set_cons_zero, List.set_cons_succ])
        | (apply SeqT.pure; rfl; (intro w9 hw9; go_simp; with_reducible rfl); simp only [Act.put, List.setIfInBounds_toArray, List.set_cons_zero, List.set_cons_succ]))
      apply SeqT.done
      exact HK gz gs sr wd ⟨hQ', hgz, B5, hR5⟩
  intro gE kE sE w7 ⟨hb7, hge7, B7, R7⟩
  have hw7 := below_trans hw6 hb7 hw6.size
  have HL := (HL6.keep hb7).add B7 R7
  refine hKP _ _ (hTP' _ hb7) ?_
  clear hKP hTP hTP' B7 R7 hb7 hge7 HL6 hw6
  try clear wq
  obtain ⟨wq, rfl⟩ : ∃ z, z = w7 := ⟨_, rfl⟩
  obtain ⟨AB, nB, cB⟩ := sB
  obtain rfl : nB = 1 := (HL.log 3 rfl).1
  obtain ⟨AC, nC, cC⟩ := sC
  obtain rfl : nC = 2 := (HL.log 2 rfl).1
  obtain ⟨AE, nE, cE⟩ := sE
  obtain rfl : nE = 1 := (HL.log 0 rfl).1
  go_wp2_with fail
  refine wp_region_p ([(0, true), (1, true), (2, true), (3, true), (4, true), (5, true), (6, true), (7, true), (8, true), (9, true), (10, true), (11, true), (12, true), (13, true), (14, true), (15, true), (16, true), (17, true), (18, true), (19, true), (20, true), (21, true), (22, true), (23, true), (24, true), (25, true), (26, true), (27, true), (28, true), (29, true), (30, true), (31, true), (32, true), (33, true), (34, true), (35, true), (36, true), (37, true), (38, true), (39, true), (40, true), (41, true), (42, true), (43, true), (44, true), (45, true), (46, true), (47, true), (48, true), (49, false), (50, true), (51, true), (52, true), (53, true), (54, true), (55, false), (56, true), (57, true), (58, true), (59, true), (60, false), (61, false), (62, true), (63, false), (64, true), (65, true), (66, true), (67, true), (68, true), (69, false), (70, true), (71, true), (72, true)]) (fun w' => Below wq.heap.size wq w') (by kernel_rfl) rfl (by kernel_rfl) (by kernel_rfl) ((Below.refl _ _).drew) rfl ?_
  intro KP RP TP hKP hTP hTP'
  simp only [List.append_eq, List.cons_append, List.nil_append, pick, nth]
  have hQ : Below wq.heap.size wq wq.drew := (Below.refl _ _).drew
  generalize wq.drew = wc at hQ ⊢
  go_wp2_with (first
    | (apply SeqP.skip; rfl; simp only [Act.put, List.setIfInBounds_toArray, List.set_cons_zero, List.set_cons_succ])
    | (apply SeqP.pure; rfl; (intro w2 hw; have hw := hTP _ hw; exact exec_load_blk 24 _ rfl _ rfl _ _ ((HL.keep hw).blk 4 rfl) _ Try.underlying24 rfl rg_info); simp only [Act.put, List.setIfInBounds_toArray, List.set_cons_zero, List.set_cons_succ])
    | (apply SeqP.pure; rfl; (intro w2 hw; have hw := hTP _ hw; exact exec_load_blk 24 _ rfl _ rfl _ _ ((HL.keep hw).blk 2 rfl) _ Try.underlying24 rfl rg_info); simp only [Act.put, List.setIfInBounds_toArray, List.set_cons_zero, List.set_cons_succ])
    | (apply SeqP.pure; rfl; (intro w2 hw; have hw := hTP _ hw; exact exec_load_blk 24 _ rfl _ rfl _ _ ((HL.keep hw).blk 1 rfl) _ Try.underlying24 rfl rg_info); simp only [Act.put, List.setIfInBounds_toArray, List.set_cons_zero, List.set_cons_succ])
    | (apply SeqP.pure; rfl; (intro w2 hw; have hw := hTP _ hw; exact exec_load_blk 24 _ rfl _ rfl _ _ ((HL.keep hw).blk 5 rfl) _ Try.underlying24 rfl rg_info); simp only [Act.put, List.setIfInBounds_toArray, List.set_cons_zero, List.set_cons_succ])
    | (apply SeqP.pure; rfl; (intro w2 hw; have hw := hTP _ hw; ((have za := (HL.keep hw).blk 4 rfl; have zb := (HL.keep hw).blk 3 rfl; have zc := (HL.keep hw).blk 2 rfl; have zd := (HL.keep hw).blk 1 rfl; have ze := (HL.keep hw).blk 0 rfl; have y0 := za.cell 0; have y1 := zb.cell 2; have y2 := zc.cell 2; have y3 := zd.cell 3; have y4 := ze.cell 1; have y5 := ze.cell 2; simp [rgv, rA, rB, rC, rD, rE] at y0 y1 y2 y3 y4 y5; clear za zb zc zd ze)); go_simp; with_reducible rfl); simp only [Act.put, List.setIfInBounds_toArray, List.set_cons_zero, List.set_cons_succ])
    | (apply SeqP.split; rfl; rfl; all_goals (intro hc; simp only [hc])))
  apply SeqP.eff
  · rfl
  intro KE hKE
  go_wp2_with fail
  refine (may_to false _ (recL 2 3 0 0 (none, 0, 0) []) wc (ay1 _) ((HL.keep hQ).log 4 rfl) (LogAt.nil) (by first | (show (0 : Nat) ≤ 1000; decide) | (show (1 : Nat) ≤ 1000; decide))).mono ?_
  rintro e wd ⟨rfl, hb⟩
  have hQ' := below_trans hQ hb hQ.size
  refine hKE _ _ (hTP' _ hQ') ?_
  clear hKE KE hQ hb
  try clear hS
  try clear wc
  obtain ⟨wc, rfl⟩ : ∃ z, z = wd := ⟨_, rfl⟩
  have hQ := hQ'
  clear hQ'
  go_wp2_with (first
    | (apply SeqP.skip; rfl; simp only [Act.put, List.setIfInBounds_toArray, List.set_cons_zero, List.set_cons_succ])
    | (apply SeqP.pure; rfl; (intro w2 hw; have hw := hTP _ hw; exact exec_load_blk 24 _ rfl _ rfl _ _ ((HL.keep hw).blk 4 rfl) _ Try.underlying24 rfl rg_info); simp only [Act.put, List.setIfInBounds_toArray, List.set_cons_zero, List.set_cons_succ])
    | (apply SeqP.pure; rfl; (intro w2 hw; have hw := hTP _ hw; exact exec_load_blk 24 _ rfl _ rfl _ _ ((HL.keep hw).blk 2 rfl) _ Try.underlying24 rfl rg_info); simp only [Act.put, List.setIfInBounds_toArray, List.set_cons_zero, List.set_cons_succ])
    | (apply SeqP.pure; rfl; (intro w2 hw; have hw := hTP _ hw; exact exec_load_blk 24 _ rfl _ rfl _ _ ((HL.keep hw).blk 1 rfl) _ Try.underlying24 rfl rg_info); simp only [Act.put, List.setIfInBounds_toArray, List.set_cons_zero, List.set_cons_succ])
    | (apply SeqP.pure; rfl; (intro w2 hw; have hw := hTP _ hw; exact exec_load_blk 24 _ rfl _ rfl _ _ ((HL.keep hw).blk 5 rfl) _ Try.underlying24 rfl rg_info); simp only [Act.put, List.setIfInBounds_toArray, List.set_cons_zero, List.set_cons_succ])
    | (apply SeqP.pure; rfl; (intro w2 hw; have hw := hTP _ hw; ((have za := (HL.keep hw).blk 4 rfl; have zb := (HL.keep hw).blk 3 rfl; have zc := (HL.keep hw).blk 2 rfl; have zd := (HL.keep hw).blk 1 rfl; have ze := (HL.keep hw).blk 0 rfl; have y0 := za.cell 0; have y1 := zb.cell 2; have y2 := zc.cell 2; have y3 := zd.cell 3; have y4 := ze.cell 1; have y5 := ze.cell 2; simp [rgv, rA, rB, rC, rD, rE] at y0 y1 y2 y3 y4 y5; clear za zb zc zd ze)); go_simp; with_reducible rfl); simp only [Act.put, List.setIfInBounds_toArray, List.set_cons_zero, List.set_cons_succ])
    | (apply SeqP.split; rfl; rfl; all_goals (intro hc; simp only [hc])))
  apply SeqP.eff
  · rfl
  intro KE hKE
  go_wp2_with fail
  refine (may_to false _ (recL 2 4 0 0 (none, 0, 0) []) wc (ay2 _) ((HL.keep hQ).log 2 rfl) (LogAt.nil) (by first | (show (0 : Nat) ≤ 1000; decide) | (show (1 : Nat) ≤ 1000; decide))).mono ?_
  rintro e wd ⟨rfl, hb⟩
  have hQ' := below_trans hQ hb hQ.size
  refine hKE _ _ (hTP' _ hQ') ?_
  clear hKE KE hQ hb
  try clear hS
  try clear wc
  obtain ⟨wc, rfl⟩ : ∃ z, z = wd := ⟨_, rfl⟩
  have hQ := hQ'
  clear hQ'
  go_wp2_with (first
    | (apply SeqP.skip; rfl; simp only [Act.put, List.setIfInBounds_toArray, List.set_cons_zero, List.set_cons_succ])
    | (apply SeqP.pure; rfl; (intro w2 hw; have hw := hTP _ hw; exact exec_load_blk 24 _ rfl _ rfl _ _ ((HL.keep hw).blk 4 rfl) _ Try.underlying24 rfl rg_info); simp only [Act.put, List.setIfInBounds_toArray, List.set_cons_zero, List.set_cons_succ])
    | (apply SeqP.pure; rfl; (intro w2 hw; have hw := hTP _ hw; exact exec_load_blk 24 _ rfl _ rfl _ _ ((HL.keep hw).blk 2 rfl) _ Try.underlying24 rfl rg_info); simp only [Act.put, List.setIfInBounds_toArray, List.set_cons_zero, List.set_cons_succ])
    | (apply SeqP.pure; rfl; (intro w2 hw; have hw := hTP _ hw; exact exec_load_blk 24 _ rfl _ rfl _ _ ((HL.keep hw).blk 1 rfl) _ Try.underlying24 rfl rg_info); simp only [Act.put, List.setIfInBounds_toArray, List.set_cons_zero, List.set_cons_succ])
    | (apply SeqP.pure; rfl; (intro w2 hw; have hw := hTP _ hw; exact exec_load_blk 24 _ rfl _ rfl _ _ ((HL.keep hw).blk 5 rfl) _ Try.underlying24 rfl rg_info); simp only [Act.put, List.setIfInBounds_toArray, List.set_cons_zero, List.set_cons_succ])
    | (apply SeqP.pure; rfl; (intro w2 hw; have hw := hTP _ hw; ((have za := (HL.keep hw).blk 4 rfl; have zb := (HL.keep hw).blk 3 rfl; have zc := (HL.keep hw).blk 2 rfl; have zd := (HL.keep hw).blk 1 rfl; have ze := (HL.keep hw).blk 0 rfl; have y0 := za.cell 0; have y1 := zb.cell 2; have y2 := zc.cell 2; have y3 := zd.cell 3; have y4 := ze.cell 1; have y5 := ze.cell 2; simp [rgv, rA, rB, rC, rD, rE] at y0 y1 y2 y3 y4 y5; clear za zb zc zd ze)); go_simp; with_reducible rfl); simp only [Act.put, List.setIfInBounds_toArray, List.set_cons_zero, List.set_cons_succ])
    | (apply SeqP.split; rfl; rfl; all_goals (intro hc; simp only [hc])))
  apply SeqP.eff
  · rfl
  intro KE hKE
  go_wp2_with fail
  refine (entry15_any _ _ _).mono ?_
  rintro e wd ⟨rfl, hb⟩
  have hQ' := below_trans hQ hb hQ.size
  refine hKE _ _ (hTP' _ hQ') ?_
  clear hKE KE hQ hb
  try clear wc
  obtain ⟨wc, rfl⟩ : ∃ z, z = wd := ⟨_, rfl⟩
  have hQ := hQ'
  clear hQ'
  apply SeqP.eff
  · rfl
  intro KE hKE
  go_wp2_with fail
  refine eff_abs hKE (fun W' => Below wc.heap.size wc W' ∧ LogAt W' W'.heap.size (some ⟨wc.heap.size, 0, none⟩, 1, 1) [entI 9]) ⟨(Below.refl _ _).alloc (Nat.le_refl _) _, lit_log wc (entI 9)⟩ (fun W' h => hTP' _ (below_trans hQ h.1 hQ.size)) ?_
  rintro wd ⟨hb, hS⟩
  have hQ' := below_trans hQ hb hQ.size
  generalize wc.heap.size = gs at hS ⊢
  clear hKE KE hQ hb
  try clear wc
  obtain ⟨wc, rfl⟩ : ∃ z, z = wd := ⟨_, rfl⟩
  have hQ := hQ'
  clear hQ'
  go_wp2_with (first
    | (apply SeqP.skip; rfl; simp only [Act.put, List.setIfInBounds_toArray, List.set_cons_zero, List.set_cons_succ])
    | (apply SeqP.pure; rfl; (intro w2 hw; have hw := hTP _ hw; exact exec_load_blk 24 _ rfl _ rfl _ _ ((HL.keep hw).blk 4 rfl) _ Try.underlying24 rfl rg_info); simp only [Act.put, List.setIfInBounds_toArray, List.set_cons_zero, List.set_cons_succ])
    | (apply SeqP.pure; rfl; (intro w2 hw; have hw := hTP _ hw; exact exec_load_blk 24 _ rfl _ rfl _ _ ((HL.keep hw).blk 2 rfl) _ Try.underlying24 rfl rg_info); simp only [Act.put, List.setIfInBounds_toArray, List.set_cons_zero, List.set_cons_succ])
    | (apply SeqP.pure; rfl; (intro w2 hw; have hw := hTP _ hw; exact exec_load_blk 24 _ rfl _ rfl _ _ ((HL.keep hw).blk 1 rfl) _ Try.underlying24 rfl rg_info); simp only [Act.put, List.setIfInBounds_toArray, List.set_cons_zero, List.set_cons_succ])
    | (apply SeqP.pure; rfl; (intro w2 hw; have hw := hTP _ hw; exact exec_load_blk 24 _ rfl _ rfl _ _ ((HL.keep hw).blk 5 rfl) _ Try.underlying24 rfl rg_info); simp only [Act.put, List.setIfInBounds_toArray, List.set_cons_zero, List.set_cons_succ])
    | (apply SeqP.pure; rfl; (intro w2 hw; have hw := hTP _ hw; ((have za := (HL.keep hw).blk 4 rfl; have zb := (HL.keep hw).blk 3 rfl; have zc := (HL.keep hw).blk 2 rfl; have zd := (HL.keep hw).blk 1 rfl; have ze := (HL.keep hw).blk 0 rfl; have y0 := za.cell 0; have y1 := zb.cell 2; have y2 := zc.cell 2; have y3 := zd.cell 3; have y4 := ze.cell 1; have y5 := ze.cell 2; simp [rgv, rA, rB, rC, rD, rE] at y0 y1 y2 y3 y4 y5; clear za zb zc zd ze)); go_simp; with_reducible rfl); simp only [Act.put, List.setIfInBounds_toArray, List.set_cons_zero, List.set_cons_succ])
    | (apply SeqP.split; rfl; rfl; all_goals (intro hc; simp only [hc])))
  apply SeqP.eff
  · rfl
  intro KE hKE
  go_wp2_with fail
  refine (may_to false _ (recL 2 7 0 0 _ [entI 9]) wc (ay3 _) ((HL.keep hQ).log 1 rfl) (hS) (by first | (show (0 : Nat) ≤ 1000; decide) | (show (1 : Nat) ≤ 1000; decide))).mono ?_
  rintro e wd ⟨rfl, hb⟩
  have hQ' := below_trans hQ hb hQ.size
  refine hKE _ _ (hTP' _ hQ') ?_
  clear hKE KE hQ hb
  try clear hS
  try clear wc
  obtain ⟨wc, rfl⟩ : ∃ z, z = wd := ⟨_, rfl⟩
  have hQ := hQ'
  clear hQ'
  go_wp2_with (first
    | (apply SeqP.skip; rfl; simp only [Act.put, List.setIfInBounds_toArray, List.set_cons_zero, List.set_cons_succ])
    | (apply SeqP.pure; rfl; (intro w2 hw; have hw := hTP _ hw; exact exec_load_blk 24 _ rfl _ rfl _ _ ((HL.keep hw).blk 4 rfl) _ Try.underlying24 rfl rg_info); simp only [Act.put, List.setIfInBounds_toArray, List.set_cons_zero, List.set_cons_succ])
    | (apply SeqP.pure; rfl; (intro w2 hw; have hw := hTP _ hw; exact exec_load_blk 24 _ rfl _ rfl _ _ ((HL.keep hw).blk 2 rfl) _ Try.underlying24 rfl rg_info); simp only [Act.put, List.setIfInBounds_toArray, List.set_cons_zero, List.set_cons_succ])
    | (apply SeqP.pure; rfl; (intro w2 hw; have hw := hTP _ hw; exact exec_load_blk 24 _ rfl _ rfl _ _ ((HL.keep hw).blk 1 rfl) _ Try.underlying24 rfl rg_info); simp only [Act.put, List.setIfInBounds_toArray, List.set_cons_zero, List.set_cons_succ])
    | (apply SeqP.pure; rfl; (intro w2 hw; have hw := hTP _ hw; exact exec_load_blk 24 _ rfl _ rfl _ _ ((HL.keep hw).blk 5 rfl) _ Try.underlying24 rfl rg_info); simp only [Act.put, List.setIfInBounds_toArray, List.set_cons_zero, List.set_cons_succ])
    | (apply SeqP.pure; rfl; (intro w2 hw; have hw := hTP _ hw; ((have za := (HL.keep hw).blk 4 rfl; have zb := (HL.keep hw).blk 3 rfl; have zc := (HL.keep hw).blk 2 rfl; have zd := (HL.keep hw).blk 1 rfl; have ze := (HL.keep hw).blk 0 rfl; have y0 := za.cell 0; have y1 := zb.cell 2; have y2 := zc.cell 2; have y3 := zd.cell 3; have y4 := ze.cell 1; have y5 := ze.cell 2; simp [rgv, rA, rB, rC, rD, rE] at y0 y1 y2 y3 y4 y5; clear za zb zc zd ze)); go_simp; with_reducible rfl); simp only [Act.put, List.setIfInBounds_toArray, List.set_cons_zero, List.set_cons_succ])
    | (apply SeqP.split; rfl; rfl; all_goals (intro hc; simp only [hc])))
  apply SeqP.eff
  · rfl
  intro KE hKE
  go_wp2_with fail
  refine (may_to false _ (recL 3 0 0 1 (none, 0, 0) []) wc (ay4 _) ((HL.keep hQ).log 5 rfl) (LogAt.nil) (by first | (show (0 : Nat) ≤ 1000; decide) | (show (1 : Nat) ≤ 1000; decide))).mono ?_
  rintro e wd ⟨rfl, hb⟩
  have hQ' := below_trans hQ hb hQ.size
  refine hKE _ _ (hTP' _ hQ') ?_
  clear hKE KE hQ hb
  try clear hS
  try clear wc
  obtain ⟨wc, rfl⟩ : ∃ z, z = wd := ⟨_, rfl⟩
  have hQ := hQ'
  clear hQ'
  go_wp2_with (first
    | (apply SeqP.skip; rfl; simp only [Act.put, List.setIfInBounds_toArray, List.set_cons_zero, List.set_cons_succ])
    | (apply SeqP.pure; rfl; (intro w2 hw; have hw := hTP _ hw; exact exec_load_blk 24 _ rfl _ rfl _ _ ((HL.keep hw).blk 4 rfl) _ Try.underlying24 rfl rg_info); simp only [Act.put, List.setIfInBounds_toArray, List.set_cons_zero, List.set_cons_succ])
    | (apply SeqP.pure; rfl; (intro w2 hw; have hw := hTP _ hw; exact exec_load_blk 24 _ rfl _ rfl _ _ ((HL.keep hw).blk 2 rfl) _ Try.underlying24 rfl rg_info); simp only [Act.put, List.setIfInBounds_toArray, List.set_cons_zero, List.set_cons_succ])
    | (apply SeqP.pure; rfl; (intro w2 hw; have hw := hTP _ hw; exact exec_load_blk 24 _ rfl _ rfl _ _ ((HL.keep hw).blk 1 rfl) _ Try.underlying24 rfl rg_info); simp only [Act.put, List.setIfInBounds_toArray, List.set_cons_zero, List.set_cons_succ])
    | (apply SeqP.pure; rfl; (intro w2 hw; have hw := hTP _ hw; exact exec_load_blk 24 _ rfl _ rfl _ _ ((HL.keep hw).blk 5 rfl) _ Try.underlying24 rfl rg_info); simp only [Act.put, List.setIfInBounds_toArray, List.set_cons_zero, List.set_cons_succ])
    | (apply SeqP.pure; rfl; (intro w2 hw; have hw := hTP _ hw; ((have za := (HL.keep hw).blk 4 rfl; have zb := (HL.keep hw).blk 3 rfl; have zc := (HL.keep hw).blk 2 rfl; have zd := (HL.keep hw).blk 1 rfl; have ze := (HL.keep hw).blk 0 rfl; have y0 := za.cell 0; have y1 := zb.cell 2; have y2 := zc.cell 2; have y3 := zd.cell 3; have y4 := ze.cell 1; have y5 := ze.cell 2; simp [rgv, rA, rB, rC, rD, rE] at y0 y1 y2 y3 y4 y5; clear za zb zc zd ze)); go_simp; with_reducible rfl); simp only [Act.put, List.setIfInBounds_toArray, List.set_cons_zero, List.set_cons_succ])
    | (apply SeqP.split; rfl; rfl; all_goals (intro hc; simp only [hc])))
  apply SeqP.nil
  refine hKP _ _ (hTP' _ (hQ)) ?_
  clear hKP hTP hTP'
  go_wp2_with fail
  go_ret
  exact ⟨rfl, below_trans hw7 hQ hw7.size⟩
end Go.Proofs.Ytbicefilfhcgoaa
