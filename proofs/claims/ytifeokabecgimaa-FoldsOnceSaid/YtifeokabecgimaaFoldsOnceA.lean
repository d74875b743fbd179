/-
  The walk over the statement 'FoldsOnce', at no negative index.
-/
import Derived.Test.YtifeokabecgimaaWorks13
import Derived.Test.YtifeokabecgimaaOpen2
import Derived.Test.YtifeokabecgimaaMid
import Derived.Test.YtifeokabecgimaaFoldLaws2
set_option linter.unusedSimpArgs false
set_option linter.unusedVariables false
set_option maxRecDepth 100000
namespace Go.Proofs.Ytifeokabecgimaa
open Go Go.RowKit Go.Sq Go.Wd Go.Arch

set_option maxHeartbeats 8000000 in
theorem foldsOnce_a (l : List Ent) (A : Option Addr) (c : Nat) (x : Ent) (at_ : Int) (w : World) (ha : Ents w w.heap.size A l) (hl : l.length ≤ 9223372036854775807) (hwf : ∀ e ∈ l, wfEnt e) (l1 : l.length ≤ 300) (l2 : 0 < l.length)
    (k : Nat) (hk : k < l.length) (htm : -(l.length : Int) < at_.tmod l.length ∧ at_.tmod l.length < l.length) (hk1 : 0 ≤ at_.tmod l.length) (hk2 : at_.tmod l.length = k) :
    Calls Try.prog 7 #[.slice A l.length c, .agg #[.int .i64 x.1, .int .i64 x.2.1, .int .i64 x.2.2.1, .int .i64 x.2.2.2.1, .int .i64 x.2.2.2.2.1, .int .i64 x.2.2.2.2.2], .int .i64 at_] w fun e w' => e = .returned (.bool true) ∧ Below w.heap.size w w' := by
  have hw := Below.refl w.heap.size w
  have EA : ∀ {w' : World}, Below w.heap.size w w' → Ents w' w'.heap.size A l := fun h => (ha.below h).more h.size
  have HE := Lib.hid ha
  clear ha
  have hbX : Below w.heap.size w (w.alloc (.cells #[.int .i64 x.1, .int .i64 x.2.1, .int .i64 x.2.2.1, .int .i64 x.2.2.2.1, .int .i64 x.2.2.2.2.1, .int .i64 x.2.2.2.2.2] 45)) := hw.alloc (Nat.le_refl _) _
  have l4 : ((l.length : Int) == 0) = false := by rw [beq_eq_false_iff_ne]; omega
  obtain ⟨bA, oA, ek, rfl, hek, FA⟩ := HE.out.at_ hk
  obtain ⟨c0, c1, c2, c3, c4, c5⟩ := FA _ hbX
  obtain ⟨p, hfp, hpk⟩ := first_at hek.out
  have hwx : (Lit.int .i64 ek.2.1).wf = true := (hwf ek (List.mem_of_getElem? hek.out)).2.1
  obtain ⟨y, hy⟩ : ∃ y : Ent, y = (x.1, ek.2.1, x.2.2) := ⟨_, rfl⟩
  have hy1 : y.2.1 = ek.2.1 := by rw [hy]
  have hwf' : ∀ e ∈ l ++ [y, y], (Lit.int .i64 e.2.1).wf = true := fun e he => by
    rcases List.mem_append.1 he with h | h
    · exact (hwf e h).2.1
    · have : e = y := by simpa using h
      rw [this, hy1]; exact hwx
  have HW := Lib.hid hwf'
  have HF := Lib.hid (fold_twice l y (p := p) (by rw [hy1]; exact hfp))
  have HP := Lib.hid hfp
  clear hwf hwf' hwx hfp
  have BX : Blk (w.alloc (.cells #[.int .i64 x.1, .int .i64 ek.2.1, .int .i64 x.2.2.1, .int .i64 x.2.2.2.1, .int .i64 x.2.2.2.2.1, .int .i64 x.2.2.2.2.2] 45)) w.heap.size 45 (vals y) := (Blk.new w 45 (vals (x.1, ek.2.1, x.2.2))).of_eq (by rw [hy])
  have hbX2 : Below w.heap.size w (w.alloc (.cells #[.int .i64 x.1, .int .i64 ek.2.1, .int .i64 x.2.2.1, .int .i64 x.2.2.2.1, .int .i64 x.2.2.2.2.1, .int .i64 x.2.2.2.2.2] 45)) := hw.alloc (Nat.le_refl _) _
  clear hy hy1
  have HBX := Lib.hid (And.intro BX hbX2)
  clear BX hbX2
  have hlt : ¬ (k : Int) < 0 := by omega
  clear hk1 htm
  go_enter Try.func7, Try.ntmps7
  go_wp2_with fail
  obtain ⟨BX0, hbX0⟩ := HBX.out
  clear HBX hbX FA c0 c1 c2 c3 c4 c5
  generalize w.alloc (.cells #[.int .i64 x.1, .int .i64 ek.2.1, .int .i64 x.2.2.1, .int .i64 x.2.2.2.1, .int .i64 x.2.2.2.2.1, .int .i64 x.2.2.2.2.2] 45) = w0 at BX0 hbX0 ⊢
  refine (find_any l _ c ek.2.1 _ (EA hbX0) (by omega)).mono ?_
  rintro e w1 ⟨rfl, hb⟩
  have hw1 := below_trans hbX0 hb hbX0.size
  have BX1 := BX0.keep hb
  clear hb hbX0 BX0
  rw [HP.out]
  simp only [whereK, Option.isSome_some]
  have hlen : (foldS l).2.length = l.length := fold_len l l.length (Nat.le_refl _)
  go_wp2_with fail
  refine (of_any l _ c _ (EA hw1) (by omega) (fun e he => HW.out e (List.mem_append_left _ he))).mono ?_
  rintro e w2 ⟨v2, rfl, hO, hb⟩
  have hw2 := below_trans hw1 hb hw1.size
  have BX2 := BX1.keep hb
  have R2 := hO.toR
  clear hO hb hw1 BX1
  have HL := Lib.hid hlen
  clear hlen
  generalize foldS l = fl at HF HL R2 ⊢
  obtain ⟨ds, outs⟩ := fl
  dsimp only at HF HL R2 ⊢
  simp only [stv]
  have hbS : Below w2.heap.size w2 (w2.alloc (.cells (stv ds).toArray 25)) := (Below.refl _ _).alloc (Nat.le_refl _) _
  have hBS := below_trans hw2 hbS hw2.size
  have R3 := R2.keep hbS
  have BX3 := BX2.keep hbS
  have BS3 := Blk.new w2 25 (stv ds)
  simp only [stv] at hbS hBS R3 BX3 BS3
  generalize hW3 : w2.alloc (.cells #[.int .i64 ds.tag, .bool ds.closed, .int .i64 ds.sum, .int .i64 ds.ver] 25) = w3 at hbS hBS R3 BX3 BS3
  clear R2 BX2 hbS hw2 hw
  have hpl : p < l.length := by omega
  obtain ⟨o, ho⟩ : ∃ o, outs[p]? = some o := ⟨_, List.getElem?_eq_getElem (by rw [HL.out]; exact hpl)⟩
  have hd : dupOf outs p = (o.1, o.2.1, []) := by unfold dupOf; rw [ho]
  have hF2 := HF.out
  rw [hd] at hF2
  have HF2 := Lib.hid hF2
  have HO := Lib.hid ho
  clear hd hF2 HF ho
  go_wp2_with fail
  clear hW3
  obtain ⟨A2, cc2, rfl, q21, q22, R3'⟩ := id R3
  obtain ⟨g2, sl2, rfl, hg2, _, o20, o21, o22⟩ := R3' p o HO.out
  rw [HL.out] at q21 ⊢
  clear R3'
  have hEA := EA hBS
  have x0 : ∀ w2, Below w3.heap.size w3 w2 → w2.cell? ⟨w.heap.size, 0, none⟩ = some (.int .i64 y.1) := fun w2 h => (BX3.keep h).cell 0
  have x1 : ∀ w2, Below w3.heap.size w3 w2 → w2.cell? ⟨w.heap.size, 1, none⟩ = some (.int .i64 y.2.1) := fun w2 h => (BX3.keep h).cell 1
  have x2 : ∀ w2, Below w3.heap.size w3 w2 → w2.cell? ⟨w.heap.size, 2, none⟩ = some (.int .i64 y.2.2.1) := fun w2 h => (BX3.keep h).cell 2
  have x3 : ∀ w2, Below w3.heap.size w3 w2 → w2.cell? ⟨w.heap.size, 3, none⟩ = some (.int .i64 y.2.2.2.1) := fun w2 h => (BX3.keep h).cell 3
  have x4 : ∀ w2, Below w3.heap.size w3 w2 → w2.cell? ⟨w.heap.size, 4, none⟩ = some (.int .i64 y.2.2.2.2.1) := fun w2 h => (BX3.keep h).cell 4
  have x5 : ∀ w2, Below w3.heap.size w3 w2 → w2.cell? ⟨w.heap.size, 5, none⟩ = some (.int .i64 y.2.2.2.2.2) := fun w2 h => (BX3.keep h).cell 5
  have HX := Lib.hid (And.intro x0 (And.intro x1 (And.intro x2 (And.intro x3 (And.intro x4 x5)))))
  clear x0 x1 x2 x3 x4 x5
  refine wp_region_t (.quiet 1 (.quiet 3 (.quiet 4 (.three 0 5 11 (.three 2 5 11 (.two 5 11 (.two 6 11 (.two 7 11 (.quiet 8 (.quiet 9 (.quiet 10 (.one 11 (.one 12 (.quiet 13 .done)))))) (.one 7 (.quiet 8 (.quiet 9 (.quiet 10 (.one 12 (.quiet 13 .done))))))) (.one 6 (.one 7 (.quiet 8 (.quiet 9 (.quiet 10 (.one 12 (.quiet 13 .done)))))))) (.one 5 (.one 6 (.one 7 (.quiet 8 (.quiet 9 (.quiet 10 (.one 12 (.quiet 13 .done))))))))) (.two 2 11 (.two 6 11 (.two 7 11 (.quiet 8 (.quiet 9 (.quiet 10 (.one 11 (.one 12 (.quiet 13 .done)))))) (.one 7 (.quiet 8 (.quiet 9 (.quiet 10 (.one 12 (.quiet 13 .done))))))) (.one 6 (.one 7 (.quiet 8 (.quiet 9 (.quiet 10 (.one 12 (.quiet 13 .done)))))))) (.one 2 (.one 6 (.one 7 (.quiet 8 (.quiet 9 (.quiet 10 (.one 12 (.quiet 13 .done))))))))) (.two 2 5 (.one 5 (.one 6 (.one 7 (.quiet 8 (.quiet 9 (.quiet 10 (.one 12 (.quiet 13 .done)))))))) (.one 2 (.one 6 (.one 7 (.quiet 8 (.quiet 9 (.quiet 10 (.one 12 (.quiet 13 .done)))))))))) (.two 0 11 (.two 2 11 (.two 6 11 (.two 7 11 (.quiet 8 (.quiet 9 (.quiet 10 (.one 11 (.one 12 (.quiet 13 .done)))))) (.one 7 (.quiet 8 (.quiet 9 (.quiet 10 (.one 12 (.quiet 13 .done))))))) (.one 6 (.one 7 (.quiet 8 (.quiet 9 (.quiet 10 (.one 12 (.quiet 13 .done)))))))) (.one 2 (.one 6 (.one 7 (.quiet 8 (.quiet 9 (.quiet 10 (.one 12 (.quiet 13 .done))))))))) (.one 0 (.one 2 (.one 6 (.one 7 (.quiet 8 (.quiet 9 (.quiet 10 (.one 12 (.quiet 13 .done)))))))))) (.two 0 5 (.two 2 5 (.one 5 (.one 6 (.one 7 (.quiet 8 (.quiet 9 (.quiet 10 (.one 12 (.quiet 13 .done)))))))) (.one 2 (.one 6 (.one 7 (.quiet 8 (.quiet 9 (.quiet 10 (.one 12 (.quiet 13 .done))))))))) (.one 0 (.one 2 (.one 6 (.one 7 (.quiet 8 (.quiet 9 (.quiet 10 (.one 12 (.quiet 13 .done)))))))))))))) (fun w' => Below w3.heap.size w3 w') (by kernel_rfl) (by kernel_rfl) (by kernel_rfl) (by kernel_rfl) ((Below.refl _ _).drew) rfl ?_
  intro KP RP TP hKP hTP hTP'
  simp only [Sch.fill, nth]
  apply merge6 (Inv := fun g0 vL gX vM v4 g9 w' => Below w3.heap.size w3 w' ∧ Blk w' g9 25 (stv ds) ∧ OutsB w3.heap.size w' v4 (outs ++ [(o.1, o.2.1, []), (o.1, o.2.1, [])]) ∧ w3.heap.size ≤ g9) (K := KP)
  · intro HK
    have hM := Mid.start w3
    generalize w3.drew = wc at hM ⊢
    go_wp2_with (first
      | (apply SeqT.skip; rfl; simp only [Act.put, List.setIfInBounds_toArray, List.set_cons_zero, List.set_cons_succ])
      | (apply SeqT.call; rfl; rfl; (intro w2 hw; have hw := hTP _ hw; ((have x0 := HX.out.1 _ hw; have x1 := HX.out.2.1 _ hw; have x2 := HX.out.2.2.1 _ hw; have x3 := HX.out.2.2.2.1 _ hw; have x4 := HX.out.2.2.2.2.1 _ hw; have x5 := HX.out.2.2.2.2.2 _ hw)); go_simp; exact ⟨rfl, rfl⟩); (intro w2 hw; have hw := hTP _ hw; ((have x0 := HX.out.1 _ hw; have x1 := HX.out.2.1 _ hw; have x2 := HX.out.2.2.1 _ hw; have x3 := HX.out.2.2.2.1 _ hw; have x4 := HX.out.2.2.2.2.1 _ hw; have x5 := HX.out.2.2.2.2.2 _ hw)); (first | fail)); simp only [Act.put, List.setIfInBounds_toArray, List.set_cons_zero, List.set_cons_succ])
      | (apply SeqT.pure; rfl; (intro w2 hw; have hw := hTP _ hw; ((have x0 := HX.out.1 _ hw; have x1 := HX.out.2.1 _ hw; have x2 := HX.out.2.2.1 _ hw; have x3 := HX.out.2.2.2.1 _ hw; have x4 := HX.out.2.2.2.2.1 _ hw; have x5 := HX.out.2.2.2.2.2 _ hw)); go_simp; with_reducible rfl); simp only [Act.put, List.setIfInBounds_toArray, List.set_cons_zero, List.set_cons_succ]))
    all_goals first | apply SeqT.three | apply SeqT.two | apply SeqT.one
    all_goals first
      | (refine EffT.is (some 58) rfl ?_
         obtain ⟨vL, wd, hrun, hM'⟩ := hM.app1 c (hEA) (by omega)
         apply EffT.go
         · rfl
         intro KE hKE
         refine oper_app (by rfl) (by rfl) (by rfl) hrun ?_
         refine hKE _ _ (hTP' _ hM'.hb) ?_
         clear hrun
         clear hKE KE hM
         clear wc
         obtain ⟨wc, rfl⟩ : ∃ z, z = wd := ⟨_, rfl⟩
         have hM := hM'
         clear hM')
      | (refine EffT.is (some 62) rfl ?_
         obtain ⟨vM, wd, hrun, hM'⟩ := hM.app2 ([y, y]).length (by simp; omega)
         apply EffT.go
         · rfl
         intro KE hKE
         refine oper_app (by rfl) (by rfl) (by rfl) hrun ?_
         refine hKE _ _ (hTP' _ hM'.hb) ?_
         clear hrun
         clear hKE KE hM
         clear wc
         obtain ⟨wc, rfl⟩ : ∃ z, z = wd := ⟨_, rfl⟩
         have hM := hM'
         clear hM')
      | (refine EffT.is (some 56) rfl ?_
         apply EffT.go
         · rfl
         intro KE hKE
         go_wp2_with fail
         have hM' := hM.row0
         refine hKE _ _ (hTP' _ hM'.hb) ?_
         generalize wc.heap.size = g0 at hM' ⊢
         generalize wc.alloc (.cells #[] 45) = wd at hM' ⊢
         clear hKE KE hM
         clear wc
         obtain ⟨wc, rfl⟩ : ∃ z, z = wd := ⟨_, rfl⟩
         have hM := hM'
         clear hM')
      | (refine EffT.is (some 61) rfl ?_
         apply EffT.go
         · rfl
         intro KE hKE
         go_wp2_with fail
         have hM' := hM.lit [y, y]
         simp only [flat, List.flatMap_cons, List.flatMap_nil, vals, List.append_nil, List.cons_append, List.nil_append] at hM'
         refine hKE _ _ (hTP' _ hM'.hb) ?_
         generalize wc.heap.size = gX at hM' ⊢
         generalize World.alloc wc _ = wd at hM' ⊢
         clear hKE KE hM
         clear wc
         obtain ⟨wc, rfl⟩ : ∃ z, z = wd := ⟨_, rfl⟩
         have hM := hM'
         clear hM')
      | (refine EffT.is (some 12) rfl ?_
         apply EffT.go
         · rfl
         intro KE hKE
         go_wp2_with fail
         have hM' := hM.state
         simp only [stv] at hM'
         refine hKE _ _ (hTP' _ hM'.hb) ?_
         try replace hO := hO.next (show Below wc.heap.size wc (wc.alloc (.cells #[.int .i64 0, .bool false, .int .i64 0, .int .i64 0] 25)) from (Below.refl _ _).alloc (Nat.le_refl _) _)
         generalize wc.alloc (.cells #[.int .i64 0, .bool false, .int .i64 0, .int .i64 0] 25) = wd at *
         generalize wc.heap.size = g9 at *
         clear hKE KE hM
         clear wc
         obtain ⟨wc, rfl⟩ : ∃ z, z = wd := ⟨_, rfl⟩
         have hM := hM'
         clear hM')
      | (refine EffT.is (some 63) rfl ?_
         apply EffT.go
         · rfl
         intro KE hKE
         go_wp2_with fail
         refine (hM.of (by simp; omega) HW.out).mono ?_
         rintro e wd ⟨v4, rfl, hM', hO⟩
         rw [HF2.out] at hO ⊢; simp only [stv] at hO ⊢
         refine hKE _ _ (hTP' _ hM'.hb) ?_
         clear hKE KE hM
         clear wc
         obtain ⟨wc, rfl⟩ : ∃ z, z = wd := ⟨_, rfl⟩
         have hM := hM'
         clear hM')
      | (refine EffT.is none rfl ?_
         obtain ⟨hb9, _, _⟩ := hM.st _ rfl
         have c0 := hb9.cell 0
         have c1 := hb9.cell 1
         have c2 := hb9.cell 2
         have c3 := hb9.cell 3
         have f0 := hb9.frozen 0
         have f1 := hb9.frozen 1
         have f2 := hb9.frozen 2
         have f3 := hb9.frozen 3
         simp [stv] at c0 c1 c2 c3
         have hZ := hM.stored hO ds rfl
         clear hb9 hM hO
         apply EffT.go
         · rfl
         intro KE hKE
         go_wp2_with fail
         refine hKE _ _ (hTP' _ hZ.1) ?_
         clear hKE KE)
    all_goals first | apply SeqT.three | apply SeqT.two | apply SeqT.one
    all_goals first
      | (refine EffT.is (some 58) rfl ?_
         obtain ⟨vL, wd, hrun, hM'⟩ := hM.app1 c (hEA) (by omega)
         apply EffT.go
         · rfl
         intro KE hKE
         refine oper_app (by rfl) (by rfl) (by rfl) hrun ?_
         refine hKE _ _ (hTP' _ hM'.hb) ?_
         clear hrun
         clear hKE KE hM
         clear wc
         obtain ⟨wc, rfl⟩ : ∃ z, z = wd := ⟨_, rfl⟩
         have hM := hM'
         clear hM')
      | (refine EffT.is (some 62) rfl ?_
         obtain ⟨vM, wd, hrun, hM'⟩ := hM.app2 ([y, y]).length (by simp; omega)
         apply EffT.go
         · rfl
         intro KE hKE
         refine oper_app (by rfl) (by rfl) (by rfl) hrun ?_
         refine hKE _ _ (hTP' _ hM'.hb) ?_
         clear hrun
         clear hKE KE hM
         clear wc
         obtain ⟨wc, rfl⟩ : ∃ z, z = wd := ⟨_, rfl⟩
         have hM := hM'
         clear hM')
      | (refine EffT.is (some 56) rfl ?_
         apply EffT.go
         · rfl
         intro KE hKE
         go_wp2_with fail
         have hM' := hM.row0
         refine hKE _ _ (hTP' _ hM'.hb) ?_
         generalize wc.heap.size = g0 at hM' ⊢
         generalize wc.alloc (.cells #[] 45) = wd at hM' ⊢
         clear hKE KE hM
         clear wc
         obtain ⟨wc, rfl⟩ : ∃ z, z = wd := ⟨_, rfl⟩
         have hM := hM'
         clear hM')
      | (refine EffT.is (some 61) rfl ?_
         apply EffT.go
         · rfl
         intro KE hKE
         go_wp2_with fail
         have hM' := hM.lit [y, y]
         simp only [flat, List.flatMap_cons, List.flatMap_nil, vals, List.append_nil, List.cons_append, List.nil_append] at hM'
         refine hKE _ _ (hTP' _ hM'.hb) ?_
         generalize wc.heap.size = gX at hM' ⊢
         generalize World.alloc wc _ = wd at hM' ⊢
         clear hKE KE hM
         clear wc
         obtain ⟨wc, rfl⟩ : ∃ z, z = wd := ⟨_, rfl⟩
         have hM := hM'
         clear hM')
      | (refine EffT.is (some 12) rfl ?_
         apply EffT.go
         · rfl
         intro KE hKE
         go_wp2_with fail
         have hM' := hM.state
         simp only [stv] at hM'
         refine hKE _ _ (hTP' _ hM'.hb) ?_
         try replace hO := hO.next (show Below wc.heap.size wc (wc.alloc (.cells #[.int .i64 0, .bool false, .int .i64 0, .int .i64 0] 25)) from (Below.refl _ _).alloc (Nat.le_refl _) _)
         generalize wc.alloc (.cells #[.int .i64 0, .bool false, .int .i64 0, .int .i64 0] 25) = wd at *
         generalize wc.heap.size = g9 at *
         clear hKE KE hM
         clear wc
         obtain ⟨wc, rfl⟩ : ∃ z, z = wd := ⟨_, rfl⟩
         have hM := hM'
         clear hM')
      | (refine EffT.is (some 63) rfl ?_
         apply EffT.go
         · rfl
         intro KE hKE
         go_wp2_with fail
         refine (hM.of (by simp; omega) HW.out).mono ?_
         rintro e wd ⟨v4, rfl, hM', hO⟩
         rw [HF2.out] at hO ⊢; simp only [stv] at hO ⊢
         refine hKE _ _ (hTP' _ hM'.hb) ?_
         clear hKE KE hM
         clear wc
         obtain ⟨wc, rfl⟩ : ∃ z, z = wd := ⟨_, rfl⟩
         have hM := hM'
         clear hM')
      | (refine EffT.is none rfl ?_
         obtain ⟨hb9, _, _⟩ := hM.st _ rfl
         have c0 := hb9.cell 0
         have c1 := hb9.cell 1
         have c2 := hb9.cell 2
         have c3 := hb9.cell 3
         have f0 := hb9.frozen 0
         have f1 := hb9.frozen 1
         have f2 := hb9.frozen 2
         have f3 := hb9.frozen 3
         simp [stv] at c0 c1 c2 c3
         have hZ := hM.stored hO ds rfl
         clear hb9 hM hO
         apply EffT.go
         · rfl
         intro KE hKE
         go_wp2_with fail
         refine hKE _ _ (hTP' _ hZ.1) ?_
         clear hKE KE)
    all_goals first | apply SeqT.three | apply SeqT.two | apply SeqT.one
    all_goals first
      | (refine EffT.is (some 58) rfl ?_
         obtain ⟨vL, wd, hrun, hM'⟩ := hM.app1 c (hEA) (by omega)
         apply EffT.go
         · rfl
         intro KE hKE
         refine oper_app (by rfl) (by rfl) (by rfl) hrun ?_
         refine hKE _ _ (hTP' _ hM'.hb) ?_
         clear hrun
         clear hKE KE hM
         clear wc
         obtain ⟨wc, rfl⟩ : ∃ z, z = wd := ⟨_, rfl⟩
         have hM := hM'
         clear hM')
      | (refine EffT.is (some 62) rfl ?_
         obtain ⟨vM, wd, hrun, hM'⟩ := hM.app2 ([y, y]).length (by simp; omega)
         apply EffT.go
         · rfl
         intro KE hKE
         refine oper_app (by rfl) (by rfl) (by rfl) hrun ?_
         refine hKE _ _ (hTP' _ hM'.hb) ?_
         clear hrun
         clear hKE KE hM
         clear wc
         obtain ⟨wc, rfl⟩ : ∃ z, z = wd := ⟨_, rfl⟩
         have hM := hM'
         clear hM')
      | (refine EffT.is (some 56) rfl ?_
         apply EffT.go
         · rfl
         intro KE hKE
         go_wp2_with fail
         have hM' := hM.row0
         refine hKE _ _ (hTP' _ hM'.hb) ?_
         generalize wc.heap.size = g0 at hM' ⊢
         generalize wc.alloc (.cells #[] 45) = wd at hM' ⊢
         clear hKE KE hM
         clear wc
         obtain ⟨wc, rfl⟩ : ∃ z, z = wd := ⟨_, rfl⟩
         have hM := hM'
         clear hM')
      | (refine EffT.is (some 61) rfl ?_
         apply EffT.go
         · rfl
         intro KE hKE
         go_wp2_with fail
         have hM' := hM.lit [y, y]
         simp only [flat, List.flatMap_cons, List.flatMap_nil, vals, List.append_nil, List.cons_append, List.nil_append] at hM'
         refine hKE _ _ (hTP' _ hM'.hb) ?_
         generalize wc.heap.size = gX at hM' ⊢
         generalize World.alloc wc _ = wd at hM' ⊢
         clear hKE KE hM
         clear wc
         obtain ⟨wc, rfl⟩ : ∃ z, z = wd := ⟨_, rfl⟩
         have hM := hM'
         clear hM')
      | (refine EffT.is (some 12) rfl ?_
         apply EffT.go
         · rfl
         intro KE hKE
         go_wp2_with fail
         have hM' := hM.state
         simp only [stv] at hM'
         refine hKE _ _ (hTP' _ hM'.hb) ?_
         try replace hO := hO.next (show Below wc.heap.size wc (wc.alloc (.cells #[.int .i64 0, .bool false, .int .i64 0, .int .i64 0] 25)) from (Below.refl _ _).alloc (Nat.le_refl _) _)
         generalize wc.alloc (.cells #[.int .i64 0, .bool false, .int .i64 0, .int .i64 0] 25) = wd at *
         generalize wc.heap.size = g9 at *
         clear hKE KE hM
         clear wc
         obtain ⟨wc, rfl⟩ : ∃ z, z = wd := ⟨_, rfl⟩
         have hM := hM'
         clear hM')
      | (refine EffT.is (some 63) rfl ?_
         apply EffT.go
         · rfl
         intro KE hKE
         go_wp2_with fail
         refine (hM.of (by simp; omega) HW.out).mono ?_
         rintro e wd ⟨v4, rfl, hM', hO⟩
         rw [HF2.out] at hO ⊢; simp only [stv] at hO ⊢
         refine hKE _ _ (hTP' _ hM'.hb) ?_
         clear hKE KE hM
         clear wc
         obtain ⟨wc, rfl⟩ : ∃ z, z = wd := ⟨_, rfl⟩
         have hM := hM'
         clear hM')
      | (refine EffT.is none rfl ?_
         obtain ⟨hb9, _, _⟩ := hM.st _ rfl
         have c0 := hb9.cell 0
         have c1 := hb9.cell 1
         have c2 := hb9.cell 2
         have c3 := hb9.cell 3
         have f0 := hb9.frozen 0
         have f1 := hb9.frozen 1
         have f2 := hb9.frozen 2
         have f3 := hb9.frozen 3
         simp [stv] at c0 c1 c2 c3
         have hZ := hM.stored hO ds rfl
         clear hb9 hM hO
         apply EffT.go
         · rfl
         intro KE hKE
         go_wp2_with fail
         refine hKE _ _ (hTP' _ hZ.1) ?_
         clear hKE KE)
    all_goals first | apply SeqT.three | apply SeqT.two | apply SeqT.one
    all_goals first
      | (refine EffT.is (some 58) rfl ?_
         obtain ⟨vL, wd, hrun, hM'⟩ := hM.app1 c (hEA) (by omega)
         apply EffT.go
         · rfl
         intro KE hKE
         refine oper_app (by rfl) (by rfl) (by rfl) hrun ?_
         refine hKE _ _ (hTP' _ hM'.hb) ?_
         clear hrun
         clear hKE KE hM
         clear wc
         obtain ⟨wc, rfl⟩ : ∃ z, z = wd := ⟨_, rfl⟩
         have hM := hM'
         clear hM')
      | (refine EffT.is (some 62) rfl ?_
         obtain ⟨vM, wd, hrun, hM'⟩ := hM.app2 ([y, y]).length (by simp; omega)
         apply EffT.go
         · rfl
         intro KE hKE
         refine oper_app (by rfl) (by rfl) (by rfl) hrun ?_
         refine hKE _ _ (hTP' _ hM'.hb) ?_
         clear hrun
         clear hKE KE hM
         clear wc
         obtain ⟨wc, rfl⟩ : ∃ z, z = wd := ⟨_, rfl⟩
         have hM := hM'
         clear hM')
      | (refine EffT.is (some 56) rfl ?_
         apply EffT.go
         · rfl
         intro KE hKE
         go_wp2_with fail
         have hM' := hM.row0
         refine hKE _ _ (hTP' _ hM'.hb) ?_
         generalize wc.heap.size = g0 at hM' ⊢
         generalize wc.alloc (.cells #[] 45) = wd at hM' ⊢
         clear hKE KE hM
         clear wc
         obtain ⟨wc, rfl⟩ : ∃ z, z = wd := ⟨_, rfl⟩
         have hM := hM'
         clear hM')
      | (refine EffT.is (some 61) rfl ?_
         apply EffT.go
         · rfl
         intro KE hKE
         go_wp2_with fail
         have hM' := hM.lit [y, y]
         simp only [flat, List.flatMap_cons, List.flatMap_nil, vals, List.append_nil, List.cons_append, List.nil_append] at hM'
         refine hKE _ _ (hTP' _ hM'.hb) ?_
         generalize wc.heap.size = gX at hM' ⊢
         generalize World.alloc wc _ = wd at hM' ⊢
         clear hKE KE hM
         clear wc
         obtain ⟨wc, rfl⟩ : ∃ z, z = wd := ⟨_, rfl⟩
         have hM := hM'
         clear hM')
      | (refine EffT.is (some 12) rfl ?_
         apply EffT.go
         · rfl
         intro KE hKE
         go_wp2_with fail
         have hM' := hM.state
         simp only [stv] at hM'
         refine hKE _ _ (hTP' _ hM'.hb) ?_
         try replace hO := hO.next (show Below wc.heap.size wc (wc.alloc (.cells #[.int .i64 0, .bool false, .int .i64 0, .int .i64 0] 25)) from (Below.refl _ _).alloc (Nat.le_refl _) _)
         generalize wc.alloc (.cells #[.int .i64 0, .bool false, .int .i64 0, .int .i64 0] 25) = wd at *
         generalize wc.heap.size = g9 at *
         clear hKE KE hM
         clear wc
         obtain ⟨wc, rfl⟩ : ∃ z, z = wd := ⟨_, rfl⟩
         have hM := hM'
         clear hM')
      | (refine EffT.is (some 63) rfl ?_
         apply EffT.go
         · rfl
         intro KE hKE
         go_wp2_with fail
         refine (hM.of (by simp; omega) HW.out).mono ?_
         rintro e wd ⟨v4, rfl, hM', hO⟩
         rw [HF2.out] at hO ⊢; simp only [stv] at hO ⊢
         refine hKE _ _ (hTP' _ hM'.hb) ?_
         clear hKE KE hM
         clear wc
         obtain ⟨wc, rfl⟩ : ∃ z, z = wd := ⟨_, rfl⟩
         have hM := hM'
         clear hM')
      | (refine EffT.is none rfl ?_
         obtain ⟨hb9, _, _⟩ := hM.st _ rfl
         have c0 := hb9.cell 0
         have c1 := hb9.cell 1
         have c2 := hb9.cell 2
         have c3 := hb9.cell 3
         have f0 := hb9.frozen 0
         have f1 := hb9.frozen 1
         have f2 := hb9.frozen 2
         have f3 := hb9.frozen 3
         simp [stv] at c0 c1 c2 c3
         have hZ := hM.stored hO ds rfl
         clear hb9 hM hO
         apply EffT.go
         · rfl
         intro KE hKE
         go_wp2_with fail
         refine hKE _ _ (hTP' _ hZ.1) ?_
         clear hKE KE)
    all_goals first | apply SeqT.three | apply SeqT.two | apply SeqT.one
    all_goals first
      | (refine EffT.is (some 58) rfl ?_
         obtain ⟨vL, wd, hrun, hM'⟩ := hM.app1 c (hEA) (by omega)
         apply EffT.go
         · rfl
         intro KE hKE
         refine oper_app (by rfl) (by rfl) (by rfl) hrun ?_
         refine hKE _ _ (hTP' _ hM'.hb) ?_
         clear hrun
         clear hKE KE hM
         clear wc
         obtain ⟨wc, rfl⟩ : ∃ z, z = wd := ⟨_, rfl⟩
         have hM := hM'
         clear hM')
      | (refine EffT.is (some 62) rfl ?_
         obtain ⟨vM, wd, hrun, hM'⟩ := hM.app2 ([y, y]).length (by simp; omega)
         apply EffT.go
         · rfl
         intro KE hKE
         refine oper_app (by rfl) (by rfl) (by rfl) hrun ?_
         refine hKE _ _ (hTP' _ hM'.hb) ?_
         clear hrun
         clear hKE KE hM
         clear wc
         obtain ⟨wc, rfl⟩ : ∃ z, z = wd := ⟨_, rfl⟩
         have hM := hM'
         clear hM')
      | (refine EffT.is (some 56) rfl ?_
         apply EffT.go
         · rfl
         intro KE hKE
         go_wp2_with fail
         have hM' := hM.row0
         refine hKE _ _ (hTP' _ hM'.hb) ?_
         generalize wc.heap.size = g0 at hM' ⊢
         generalize wc.alloc (.cells #[] 45) = wd at hM' ⊢
         clear hKE KE hM
         clear wc
         obtain ⟨wc, rfl⟩ : ∃ z, z = wd := ⟨_, rfl⟩
         have hM := hM'
         clear hM')
      | (refine EffT.is (some 61) rfl ?_
         apply EffT.go
         · rfl
         intro KE hKE
         go_wp2_with fail
         have hM' := hM.lit [y, y]
         simp only [flat, List.flatMap_cons, List.flatMap_nil, vals, List.append_nil, List.cons_append, List.nil_append] at hM'
         refine hKE _ _ (hTP' _ hM'.hb) ?_
         generalize wc.heap.size = gX at hM' ⊢
         generalize World.alloc wc _ = wd at hM' ⊢
         clear hKE KE hM
         clear wc
         obtain ⟨wc, rfl⟩ : ∃ z, z = wd := ⟨_, rfl⟩
         have hM := hM'
         clear hM')
      | (refine EffT.is (some 12) rfl ?_
         apply EffT.go
         · rfl
         intro KE hKE
         go_wp2_with fail
         have hM' := hM.state
         simp only [stv] at hM'
         refine hKE _ _ (hTP' _ hM'.hb) ?_
         try replace hO := hO.next (show Below wc.heap.size wc (wc.alloc (.cells #[.int .i64 0, .bool false, .int .i64 0, .int .i64 0] 25)) from (Below.refl _ _).alloc (Nat.le_refl _) _)
         generalize wc.alloc (.cells #[.int .i64 0, .bool false, .int .i64 0, .int .i64 0] 25) = wd at *
         generalize wc.heap.size = g9 at *
         clear hKE KE hM
         clear wc
         obtain ⟨wc, rfl⟩ : ∃ z, z = wd := ⟨_, rfl⟩
         have hM := hM'
         clear hM')
      | (refine EffT.is (some 63) rfl ?_
         apply EffT.go
         · rfl
         intro KE hKE
         go_wp2_with fail
         refine (hM.of (by simp; omega) HW.out).mono ?_
         rintro e wd ⟨v4, rfl, hM', hO⟩
         rw [HF2.out] at hO ⊢; simp only [stv] at hO ⊢
         refine hKE _ _ (hTP' _ hM'.hb) ?_
         clear hKE KE hM
         clear wc
         obtain ⟨wc, rfl⟩ : ∃ z, z = wd := ⟨_, rfl⟩
         have hM := hM'
         clear hM')
      | (refine EffT.is none rfl ?_
         obtain ⟨hb9, _, _⟩ := hM.st _ rfl
         have c0 := hb9.cell 0
         have c1 := hb9.cell 1
         have c2 := hb9.cell 2
         have c3 := hb9.cell 3
         have f0 := hb9.frozen 0
         have f1 := hb9.frozen 1
         have f2 := hb9.frozen 2
         have f3 := hb9.frozen 3
         simp [stv] at c0 c1 c2 c3
         have hZ := hM.stored hO ds rfl
         clear hb9 hM hO
         apply EffT.go
         · rfl
         intro KE hKE
         go_wp2_with fail
         refine hKE _ _ (hTP' _ hZ.1) ?_
         clear hKE KE)
    all_goals try (go_wp2_with (first
      | (apply SeqT.skip; rfl; simp only [Act.put, List.setIfInBounds_toArray, List.set_cons_zero, List.set_cons_succ])
      | (apply SeqT.call; rfl; rfl; (intro w2 hw; have hw := hTP _ hw; (skip); go_simp; exact ⟨rfl, rfl⟩); (intro w2 hw; have hw := hTP _ hw; (skip); (first | fail)); simp only [Act.put, List.setIfInBounds_toArray, List.set_cons_zero, List.set_cons_succ])
      | (apply SeqT.pure; rfl; (intro w2 hw; have hw := hTP _ hw; (skip); go_simp; with_reducible rfl); simp only [Act.put, List.setIfInBounds_toArray, List.set_cons_zero, List.set_cons_succ])))
    all_goals first | apply SeqT.three | apply SeqT.two | apply SeqT.one
    all_goals first
      | (refine EffT.is (some 58) rfl ?_
         obtain ⟨vL, wd, hrun, hM'⟩ := hM.app1 c (hEA) (by omega)
         apply EffT.go
         · rfl
         intro KE hKE
         refine oper_app (by rfl) (by rfl) (by rfl) hrun ?_
         refine hKE _ _ (hTP' _ hM'.hb) ?_
         clear hrun
         clear hKE KE hM
         clear wc
         obtain ⟨wc, rfl⟩ : ∃ z, z = wd := ⟨_, rfl⟩
         have hM := hM'
         clear hM')
      | (refine EffT.is (some 62) rfl ?_
         obtain ⟨vM, wd, hrun, hM'⟩ := hM.app2 ([y, y]).length (by simp; omega)
         apply EffT.go
         · rfl
         intro KE hKE
         refine oper_app (by rfl) (by rfl) (by rfl) hrun ?_
         refine hKE _ _ (hTP' _ hM'.hb) ?_
         clear hrun
         clear hKE KE hM
         clear wc
         obtain ⟨wc, rfl⟩ : ∃ z, z = wd := ⟨_, rfl⟩
         have hM := hM'
         clear hM')
      | (refine EffT.is (some 56) rfl ?_
         apply EffT.go
         · rfl
         intro KE hKE
         go_wp2_with fail
         have hM' := hM.row0
         refine hKE _ _ (hTP' _ hM'.hb) ?_
         generalize wc.heap.size = g0 at hM' ⊢
         generalize wc.alloc (.cells #[] 45) = wd at hM' ⊢
         clear hKE KE hM
         clear wc
         obtain ⟨wc, rfl⟩ : ∃ z, z = wd := ⟨_, rfl⟩
         have hM := hM'
         clear hM')
      | (refine EffT.is (some 61) rfl ?_
         apply EffT.go
         · rfl
         intro KE hKE
         go_wp2_with fail
         have hM' := hM.lit [y, y]
         simp only [flat, List.flatMap_cons, List.flatMap_nil, vals, List.append_nil, List.cons_append, List.nil_append] at hM'
         refine hKE _ _ (hTP' _ hM'.hb) ?_
         generalize wc.heap.size = gX at hM' ⊢
         generalize World.alloc wc _ = wd at hM' ⊢
         clear hKE KE hM
         clear wc
         obtain ⟨wc, rfl⟩ : ∃ z, z = wd := ⟨_, rfl⟩
         have hM := hM'
         clear hM')
      | (refine EffT.is (some 12) rfl ?_
         apply EffT.go
         · rfl
         intro KE hKE
         go_wp2_with fail
         have hM' := hM.state
         simp only [stv] at hM'
         refine hKE _ _ (hTP' _ hM'.hb) ?_
         try replace hO := hO.next (show Below wc.heap.size wc (wc.alloc (.cells #[.int .i64 0, .bool false, .int .i64 0, .int .i64 0] 25)) from (Below.refl _ _).alloc (Nat.le_refl _) _)
         generalize wc.alloc (.cells #[.int .i64 0, .bool false, .int .i64 0, .int .i64 0] 25) = wd at *
         generalize wc.heap.size = g9 at *
         clear hKE KE hM
         clear wc
         obtain ⟨wc, rfl⟩ : ∃ z, z = wd := ⟨_, rfl⟩
         have hM := hM'
         clear hM')
      | (refine EffT.is (some 63) rfl ?_
         apply EffT.go
         · rfl
         intro KE hKE
         go_wp2_with fail
         refine (hM.of (by simp; omega) HW.out).mono ?_
         rintro e wd ⟨v4, rfl, hM', hO⟩
         rw [HF2.out] at hO ⊢; simp only [stv] at hO ⊢
         refine hKE _ _ (hTP' _ hM'.hb) ?_
         clear hKE KE hM
         clear wc
         obtain ⟨wc, rfl⟩ : ∃ z, z = wd := ⟨_, rfl⟩
         have hM := hM'
         clear hM')
      | (refine EffT.is none rfl ?_
         obtain ⟨hb9, _, _⟩ := hM.st _ rfl
         have c0 := hb9.cell 0
         have c1 := hb9.cell 1
         have c2 := hb9.cell 2
         have c3 := hb9.cell 3
         have f0 := hb9.frozen 0
         have f1 := hb9.frozen 1
         have f2 := hb9.frozen 2
         have f3 := hb9.frozen 3
         simp [stv] at c0 c1 c2 c3
         have hZ := hM.stored hO ds rfl
         clear hb9 hM hO
         apply EffT.go
         · rfl
         intro KE hKE
         go_wp2_with fail
         refine hKE _ _ (hTP' _ hZ.1) ?_
         clear hKE KE)
    all_goals try (go_wp2_with (first
      | (apply SeqT.skip; rfl; simp only [Act.put, List.setIfInBounds_toArray, List.set_cons_zero, List.set_cons_succ])
      | (apply SeqT.call; rfl; rfl; (intro w2 hw; have hw := hTP _ hw; (skip); go_simp; exact ⟨rfl, rfl⟩); (intro w2 hw; have hw := hTP _ hw; (skip); (first | fail)); simp only [Act.put, List.setIfInBounds_toArray, List.set_cons_zero, List.set_cons_succ])
      | (apply SeqT.pure; rfl; (intro w2 hw; have hw := hTP _ hw; (skip); go_simp; with_reducible rfl); simp only [Act.put, List.setIfInBounds_toArray, List.set_cons_zero, List.set_cons_succ])))
    all_goals first | apply SeqT.three | apply SeqT.two | apply SeqT.one
    all_goals first
      | (refine EffT.is (some 58) rfl ?_
         obtain ⟨vL, wd, hrun, hM'⟩ := hM.app1 c (hEA) (by omega)
         apply EffT.go
         · rfl
         intro KE hKE
         refine oper_app (by rfl) (by rfl) (by rfl) hrun ?_
         refine hKE _ _ (hTP' _ hM'.hb) ?_
         clear hrun
         clear hKE KE hM
         clear wc
         obtain ⟨wc, rfl⟩ : ∃ z, z = wd := ⟨_, rfl⟩
         have hM := hM'
         clear hM')
      | (refine EffT.is (some 62) rfl ?_
         obtain ⟨vM, wd, hrun, hM'⟩ := hM.app2 ([y, y]).length (by simp; omega)
         apply EffT.go
         · rfl
         intro KE hKE
         refine oper_app (by rfl) (by rfl) (by rfl) hrun ?_
         refine hKE _ _ (hTP' _ hM'.hb) ?_
         clear hrun
         clear hKE KE hM
         clear wc
         obtain ⟨wc, rfl⟩ : ∃ z, z = wd := ⟨_, rfl⟩
         have hM := hM'
         clear hM')
      | (refine EffT.is (some 56) rfl ?_
         apply EffT.go
         · rfl
         intro KE hKE
         go_wp2_with fail
         have hM' := hM.row0
         refine hKE _ _ (hTP' _ hM'.hb) ?_
         generalize wc.heap.size = g0 at hM' ⊢
         generalize wc.alloc (.cells #[] 45) = wd at hM' ⊢
         clear hKE KE hM
         clear wc
         obtain ⟨wc, rfl⟩ : ∃ z, z = wd := ⟨_, rfl⟩
         have hM := hM'
         clear hM')
      | (refine EffT.is (some 61) rfl ?_
         apply EffT.go
         · rfl
         intro KE hKE
         go_wp2_with fail
         have hM' := hM.lit [y, y]
         simp only [flat, List.flatMap_cons, List.flatMap_nil, vals, List.append_nil, List.cons_append, List.nil_append] at hM'
         refine hKE _ _ (hTP' _ hM'.hb) ?_
         generalize wc.heap.size = gX at hM' ⊢
         generalize World.alloc wc _ = wd at hM' ⊢
         clear hKE KE hM
         clear wc
         obtain ⟨wc, rfl⟩ : ∃ z, z = wd := ⟨_, rfl⟩
         have hM := hM'
         clear hM')
      | (refine EffT.is (some 12) rfl ?_
         apply EffT.go
         · rfl
         intro KE hKE
         go_wp2_with fail
         have hM' := hM.state
         simp only [stv] at hM'
         refine hKE _ _ (hTP' _ hM'.hb) ?_
         try replace hO := hO.next (show Below wc.heap.size wc (wc.alloc (.cells #[.int .i64 0, .bool false, .int .i64 0, .int .i64 0] 25)) from (Below.refl _ _).alloc (Nat.le_refl _) _)
         generalize wc.alloc (.cells #[.int .i64 0, .bool false, .int .i64 0, .int .i64 0] 25) = wd at *
         generalize wc.heap.size = g9 at *
         clear hKE KE hM
         clear wc
         obtain ⟨wc, rfl⟩ : ∃ z, z = wd := ⟨_, rfl⟩
         have hM := hM'
         clear hM')
      | (refine EffT.is (some 63) rfl ?_
         apply EffT.go
         · rfl
         intro KE hKE
         go_wp2_with fail
         refine (hM.of (by simp; omega) HW.out).mono ?_
         rintro e wd ⟨v4, rfl, hM', hO⟩
         rw [HF2.out] at hO ⊢; simp only [stv] at hO ⊢
         refine hKE _ _ (hTP' _ hM'.hb) ?_
         clear hKE KE hM
         clear wc
         obtain ⟨wc, rfl⟩ : ∃ z, z = wd := ⟨_, rfl⟩
         have hM := hM'
         clear hM')
      | (refine EffT.is none rfl ?_
         obtain ⟨hb9, _, _⟩ := hM.st _ rfl
         have c0 := hb9.cell 0
         have c1 := hb9.cell 1
         have c2 := hb9.cell 2
         have c3 := hb9.cell 3
         have f0 := hb9.frozen 0
         have f1 := hb9.frozen 1
         have f2 := hb9.frozen 2
         have f3 := hb9.frozen 3
         simp [stv] at c0 c1 c2 c3
         have hZ := hM.stored hO ds rfl
         clear hb9 hM hO
         apply EffT.go
         · rfl
         intro KE hKE
         go_wp2_with fail
         refine hKE _ _ (hTP' _ hZ.1) ?_
         clear hKE KE)
    all_goals try (go_wp2_with (first
      | (apply SeqT.skip; rfl; simp only [Act.put, List.setIfInBounds_toArray, List.set_cons_zero, List.set_cons_succ])
      | (apply SeqT.call; rfl; rfl; (intro w2 hw; have hw := hTP _ hw; (skip); go_simp; exact ⟨rfl, rfl⟩); (intro w2 hw; have hw := hTP _ hw; (skip); (first | fail)); simp only [Act.put, List.setIfInBounds_toArray, List.set_cons_zero, List.set_cons_succ])
      | (apply SeqT.pure; rfl; (intro w2 hw; have hw := hTP _ hw; (skip); go_simp; with_reducible rfl); simp only [Act.put, List.setIfInBounds_toArray, List.set_cons_zero, List.set_cons_succ])))
    all_goals
      apply SeqT.done
      exact HK g0 vL gX vM v4 g9 _ hZ
  · intro g0 vL gX vM v4 g9 w4 hI
    refine hKP _ _ (hTP' _ hI.1) ?_
    clear hKP hTP hTP' KP RP TP
    obtain ⟨hb4, B9, RO, h9⟩ := hI
    have hw4 := below_trans hBS hb4 hBS.size
    have BS4 := BS3.keep hb4
    have R34 := R3.keep hb4
    have hz4 := hb4.size
    have hz3 := BS3.lt
    have RT := RO.toR
    obtain ⟨A4, c4, rfl, q1, q2, R4⟩ := RO
    have hln : (outs ++ [(o.1, o.2.1, []), (o.1, o.2.1, [])]).length = l.length + 2 := by rw [List.length_append, HL.out]; rfl
    obtain ⟨go, sl1, rfl, _, hgo, he1, a0, a1, a2⟩ := R4 l.length (o.1, o.2.1, []) (by rw [List.getElem?_append_right (by rw [HL.out]; exact Nat.le_refl _), HL.out, Nat.sub_self]; rfl)
    obtain ⟨go', sl3, hgg, _, _, he2, b0, b1, b2⟩ := R4 (l.length + 1) (o.1, o.2.1, []) (by rw [List.getElem?_append_right (by rw [HL.out]; omega), HL.out, Nat.add_sub_cancel_left]; rfl)
    obtain rfl : go = go' := by simpa using hgg
    have RT2 := RT.take (m := l.length) (by rw [hln]; omega)
    have htk : (outs ++ [(o.1, o.2.1, ([] : List (Int × Int))), (o.1, o.2.1, [])]).take l.length = outs := List.take_left' HL.out
    rw [htk] at RT2
    clear htk
    rw [hln] at q1 ⊢
    rw [HL.out] at R34
    have s0 := BS4.cell 0
    have s1 := BS4.cell 1
    have s2 := BS4.cell 2
    have s3 := BS4.cell 3
    have t0 := B9.cell 0
    have t1 := B9.cell 1
    have t2 := B9.cell 2
    have t3 := B9.cell 3
    simp [stv] at s0 s1 s2 s3 t0 t1 t2 t3
    have o20 := (hb4.cell (p := ⟨g2, _, none⟩) hg2).trans o20
    have o21 := (hb4.cell (p := ⟨g2, _, none⟩) hg2).trans o21
    have wl : IntKind.i64.wrap ((l.length : Int) + 1) = (l.length : Int) + 1 := IntWalk.i64_in _ (by omega)
    have wl2 : IntKind.i64.wrap ((l.length : Int) + 2) = (l.length : Int) + 2 := IntWalk.i64_in _ (by omega)
    have hq : ((((l.length + 2 : Nat)) : Int) != (l.length : Int) + 2) = false := by simp
    have hi1 : (l.length : Int) < (l.length : Int) + 2 := by omega
    have hi2 : (l.length : Int) + 1 < (l.length : Int) + 2 := by omega
    have htn : ((l.length : Int) + 1).toNat = l.length + 1 := by omega
    have h01 : (0 : Int) ≤ (l.length : Int) + 1 := by omega
    have h02 : ¬ (l.length : Int) + 1 < 0 := by omega
    have hp2 : ¬ (k : Int) < (p : Int) := by omega
    have hlc4 : l.length ≤ c4 := by omega
    have nb0 : (ds.tag != ds.tag) = false := by simp
    have nb1 : (ds.closed != ds.closed) = false := by simp
    have nb2 : (ds.sum != ds.sum) = false := by simp
    have nb3 : (ds.ver != ds.ver) = false := by simp
    obtain rfl : sl1 = (none, 0, 0) := by
      rcases he1 with h | ⟨_, _, _, _, h, _⟩
      · exact h.2
      · cases h
    obtain rfl : sl3 = (none, 0, 0) := by
      rcases he2 with h | ⟨_, _, _, _, h, _⟩
      · exact h.2
      · cases h
    clear R4 hln hb4 BS3 BX3 RT hgg he1 he2
    go_wp2_with fail
    refine (same_outs outs _ _ _ RT2 R34).mono ?_
    rintro e w5 ⟨rfl, hb⟩
    have hw5 := below_trans hw4 hb hw4.size
    have hz5 := hb.size
    have h94 := B9.lt
    have o30 := (hb.cell (p := ⟨g2, _, none⟩) (show g2 < w4.heap.size by omega)).trans o20
    have o31 := (hb.cell (p := ⟨g2, _, none⟩) (show g2 < w4.heap.size by omega)).trans o21
    have d0 := (hb.cell (p := ⟨go, _, none⟩) hgo).trans a0
    have d1 := (hb.cell (p := ⟨go, _, none⟩) hgo).trans a1
    have d2 := (hb.cell (p := ⟨go, _, none⟩) hgo).trans a2
    have e0 := (hb.cell (p := ⟨go, _, none⟩) hgo).trans b0
    have e1 := (hb.cell (p := ⟨go, _, none⟩) hgo).trans b1
    have e2 := (hb.cell (p := ⟨go, _, none⟩) hgo).trans b2
    have u0 := (hb.cell (p := ⟨w2.heap.size, 0, none⟩) (show w2.heap.size < w4.heap.size by omega)).trans s0
    have u1 := (hb.cell (p := ⟨w2.heap.size, 1, none⟩) (show w2.heap.size < w4.heap.size by omega)).trans s1
    have u2 := (hb.cell (p := ⟨w2.heap.size, 2, none⟩) (show w2.heap.size < w4.heap.size by omega)).trans s2
    have u3 := (hb.cell (p := ⟨w2.heap.size, 3, none⟩) (show w2.heap.size < w4.heap.size by omega)).trans s3
    have v0 := (hb.cell (p := ⟨g9, 0, none⟩) h94).trans t0
    have v1 := (hb.cell (p := ⟨g9, 1, none⟩) h94).trans t1
    have v2 := (hb.cell (p := ⟨g9, 2, none⟩) h94).trans t2
    have v3 := (hb.cell (p := ⟨g9, 3, none⟩) h94).trans t3
    clear hb o20 o21 a0 a1 a2 b0 b1 b2 s0 s1 s2 s3 t0 t1 t2 t3 RT2 R34 BS4 B9 R3
    go_wp2_with fail
    clear u0 u1 u2 u3 v0 v1 v2 v3
    have hpi : (p : Int) < (l.length : Int) := by omega
    refine wp_region_p ([(0, true), (1, true), (2, true), (3, true), (4, true), (5, true), (6, true), (7, true), (8, true), (9, true), (10, true), (11, false), (12, false)]) (fun w' => Below w5.heap.size w5 w') (by kernel_rfl) rfl (by kernel_rfl) (by kernel_rfl) ((Below.refl _ _).drew) rfl ?_
    intro KP RP TP hKP hTP hTP'
    simp only [pick, nth]
    go_wp2_with (first
      | (apply SeqP.skip; rfl; simp only [Act.put, List.setIfInBounds_toArray, List.set_cons_zero, List.set_cons_succ])
      | (apply SeqP.call; rfl; rfl; (intro w2 hw; have hw := hTP _ hw; ((have z0 := (hw.cell (p := ⟨g2, _, none⟩) (show g2 < w5.heap.size by omega)).trans o30; have z1 := (hw.cell (p := ⟨g2, _, none⟩) (show g2 < w5.heap.size by omega)).trans o31)); go_simp; exact ⟨rfl, rfl⟩); (intro w2 hw; have hw := hTP _ hw; ((have z0 := (hw.cell (p := ⟨g2, _, none⟩) (show g2 < w5.heap.size by omega)).trans o30; have z1 := (hw.cell (p := ⟨g2, _, none⟩) (show g2 < w5.heap.size by omega)).trans o31)); (first | fail)); simp only [Act.put, List.setIfInBounds_toArray, List.set_cons_zero, List.set_cons_succ])
      | (apply SeqP.pure; rfl; (intro w2 hw; have hw := hTP _ hw; ((have z0 := (hw.cell (p := ⟨g2, _, none⟩) (show g2 < w5.heap.size by omega)).trans o30; have z1 := (hw.cell (p := ⟨g2, _, none⟩) (show g2 < w5.heap.size by omega)).trans o31)); go_simp; with_reducible rfl); simp only [Act.put, List.setIfInBounds_toArray, List.set_cons_zero, List.set_cons_succ])
      | (apply SeqP.split; rfl; rfl; all_goals (intro hc; simp only [hc]; try simp only [beq_iff_eq, decide_eq_true_eq, beq_eq_false_iff_ne, decide_eq_false_iff_not, bne_iff_ne, ne_eq, Bool.not_eq_true', Bool.not_eq_false', Int.not_le, Int.not_lt, bne_eq_false_iff_eq, Bool.or_eq_true, Bool.and_eq_true, Bool.or_eq_false_iff] at hc)))
    apply SeqP.eff
    · rfl
    intro KE hKE
    go_wp2_with fail
    refine hKE _ _ (hTP' _ (by (repeat (first | with_reducible apply Below.drew | with_reducible refine Below.setCell ?_ (by first | exact Nat.le_refl _ | (simp; done) | (simp; omega) | omega) _ | with_reducible refine Below.alloc ?_ (by first | exact Nat.le_refl _ | (simp; done) | (simp; omega) | omega) _ | with_reducible exact Below.refl _ _ | with_reducible assumption)))) ?_
    clear hKE KE
    apply SeqP.eff
    · rfl
    intro KE hKE
    go_wp2_with fail
    have hB : Below w5.heap.size w5 (w5.alloc (.cells #[.int .i64 o.1, .int .i64 o.2.1, .slice none 0 0] 33)).drew := by (repeat (first | with_reducible apply Below.drew | with_reducible refine Below.setCell ?_ (by first | exact Nat.le_refl _ | (simp; done) | (simp; omega) | omega) _ | with_reducible refine Below.alloc ?_ (by first | exact Nat.le_refl _ | (simp; done) | (simp; omega) | omega) _ | with_reducible exact Below.refl _ _ | with_reducible assumption))
    have BW2 : Blk (w5.alloc (.cells #[.int .i64 o.1, .int .i64 o.2.1, .slice none 0 0] 33)).drew w5.heap.size 33 [.int .i64 o.1, .int .i64 o.2.1, .slice none 0 0] := (Blk.new w5 33 [.int .i64 o.1, .int .i64 o.2.1, .slice none 0 0]).drew
    refine hKE _ _ (hTP' _ hB) ?_
    clear hKE KE
    generalize (w5.alloc (.cells #[.int .i64 o.1, .int .i64 o.2.1, .slice none 0 0] 33)).drew = w7 at hB BW2 ⊢
    apply SeqP.nil
    refine hKP _ _ (hTP' _ (hB)) ?_
    clear hKP hTP hTP'
    have hw7 := below_trans hw5 hB hw5.size
    have hz7 := hB.size
    have D0 := (hB.cell (p := ⟨go, _, none⟩) (show go < w5.heap.size by omega)).trans d0
    have D1 := (hB.cell (p := ⟨go, _, none⟩) (show go < w5.heap.size by omega)).trans d1
    have D2 := (hB.cell (p := ⟨go, _, none⟩) (show go < w5.heap.size by omega)).trans d2
    have E0 := (hB.cell (p := ⟨go, _, none⟩) (show go < w5.heap.size by omega)).trans e0
    have E1 := (hB.cell (p := ⟨go, _, none⟩) (show go < w5.heap.size by omega)).trans e1
    have E2 := (hB.cell (p := ⟨go, _, none⟩) (show go < w5.heap.size by omega)).trans e2
    clear d0 d1 d2 e0 e1 e2 hB o30 o31
    go_wp2_with fail
    refine wp_region_p ([(0, true), (1, true), (2, true), (3, true), (4, true), (5, true), (6, false), (7, true), (8, true), (9, true), (10, true), (11, true), (12, true), (13, true), (14, true), (15, false), (16, true), (17, true), (18, false), (19, true), (20, true)]) (fun w' => Below w7.heap.size w7 w') (by kernel_rfl) rfl (by kernel_rfl) (by kernel_rfl) ((Below.refl _ _).drew) rfl ?_
    intro KP RP TP hKP hTP hTP'
    simp only [pick, nth]
    go_wp2_with (first
      | (apply SeqP.skip; rfl; simp only [Act.put, List.setIfInBounds_toArray, List.set_cons_zero, List.set_cons_succ])
      | (apply SeqP.call; rfl; rfl; (intro w2 hw; have hw := hTP _ hw; ((have z0 := (hw.cell (p := ⟨go, _, none⟩) (show go < w7.heap.size by omega)).trans D0; have z1 := (hw.cell (p := ⟨go, _, none⟩) (show go < w7.heap.size by omega)).trans D1; have z2 := (hw.cell (p := ⟨go, _, none⟩) (show go < w7.heap.size by omega)).trans D2; have t0 := (BW2.keep hw).cell 0; have t1 := (BW2.keep hw).cell 1; have t2 := (BW2.keep hw).cell 2; simp at t0 t1 t2)); go_simp; exact ⟨rfl, rfl⟩); (intro w2 hw; have hw := hTP _ hw; ((have z0 := (hw.cell (p := ⟨go, _, none⟩) (show go < w7.heap.size by omega)).trans D0; have z1 := (hw.cell (p := ⟨go, _, none⟩) (show go < w7.heap.size by omega)).trans D1; have z2 := (hw.cell (p := ⟨go, _, none⟩) (show go < w7.heap.size by omega)).trans D2; have t0 := (BW2.keep hw).cell 0; have t1 := (BW2.keep hw).cell 1; have t2 := (BW2.keep hw).cell 2; simp at t0 t1 t2)); (first | fail)); simp only [Act.put, List.setIfInBounds_toArray, List.set_cons_zero, List.set_cons_succ])
      | (apply SeqP.pure; rfl; (intro w2 hw; have hw := hTP _ hw; ((have z0 := (hw.cell (p := ⟨go, _, none⟩) (show go < w7.heap.size by omega)).trans D0; have z1 := (hw.cell (p := ⟨go, _, none⟩) (show go < w7.heap.size by omega)).trans D1; have z2 := (hw.cell (p := ⟨go, _, none⟩) (show go < w7.heap.size by omega)).trans D2; have t0 := (BW2.keep hw).cell 0; have t1 := (BW2.keep hw).cell 1; have t2 := (BW2.keep hw).cell 2; simp at t0 t1 t2)); go_simp; with_reducible rfl); simp only [Act.put, List.setIfInBounds_toArray, List.set_cons_zero, List.set_cons_succ])
      | (apply SeqP.split; rfl; rfl; all_goals (intro hc; simp only [hc]; try simp only [beq_iff_eq, decide_eq_true_eq, beq_eq_false_iff_ne, decide_eq_false_iff_not, bne_iff_ne, ne_eq, Bool.not_eq_true', Bool.not_eq_false', Int.not_le, Int.not_lt, bne_eq_false_iff_eq, Bool.or_eq_true, Bool.and_eq_true, Bool.or_eq_false_iff] at hc)))
    apply SeqP.eff
    · rfl
    intro KE hKE
    go_wp2_with fail
    refine (same_out (o.1, o.2.1, []) (none, 0, 0) (none, 0, 0) _ (.inl ⟨rfl, rfl⟩) (.inl ⟨rfl, rfl⟩)).mono ?_
    rintro e wy ⟨rfl, hb⟩
    have hby : Below w7.heap.size w7 wy := below_trans (Below.refl _ _).drew hb (Nat.le_refl _)
    refine hKE _ _ (hTP' _ hby) ?_
    clear hKE KE hb
    go_wp2_with (first
      | (apply SeqP.skip; rfl; simp only [Act.put, List.setIfInBounds_toArray, List.set_cons_zero, List.set_cons_succ])
      | (apply SeqP.call; rfl; rfl; (intro w2 hw; have hw := hTP _ hw; ((have z0 := (hw.cell (p := ⟨go, _, none⟩) (show go < w7.heap.size by omega)).trans E0; have z1 := (hw.cell (p := ⟨go, _, none⟩) (show go < w7.heap.size by omega)).trans E1; have z2 := (hw.cell (p := ⟨go, _, none⟩) (show go < w7.heap.size by omega)).trans E2; have t0 := (BW2.keep hw).cell 0; have t1 := (BW2.keep hw).cell 1; have t2 := (BW2.keep hw).cell 2; simp at t0 t1 t2)); go_simp; exact ⟨rfl, rfl⟩); (intro w2 hw; have hw := hTP _ hw; ((have z0 := (hw.cell (p := ⟨go, _, none⟩) (show go < w7.heap.size by omega)).trans E0; have z1 := (hw.cell (p := ⟨go, _, none⟩) (show go < w7.heap.size by omega)).trans E1; have z2 := (hw.cell (p := ⟨go, _, none⟩) (show go < w7.heap.size by omega)).trans E2; have t0 := (BW2.keep hw).cell 0; have t1 := (BW2.keep hw).cell 1; have t2 := (BW2.keep hw).cell 2; simp at t0 t1 t2)); (first | fail)); simp only [Act.put, List.setIfInBounds_toArray, List.set_cons_zero, List.set_cons_succ])
      | (apply SeqP.pure; rfl; (intro w2 hw; have hw := hTP _ hw; ((have z0 := (hw.cell (p := ⟨go, _, none⟩) (show go < w7.heap.size by omega)).trans E0; have z1 := (hw.cell (p := ⟨go, _, none⟩) (show go < w7.heap.size by omega)).trans E1; have z2 := (hw.cell (p := ⟨go, _, none⟩) (show go < w7.heap.size by omega)).trans E2; have t0 := (BW2.keep hw).cell 0; have t1 := (BW2.keep hw).cell 1; have t2 := (BW2.keep hw).cell 2; simp at t0 t1 t2)); go_simp; with_reducible rfl); simp only [Act.put, List.setIfInBounds_toArray, List.set_cons_zero, List.set_cons_succ])
      | (apply SeqP.split; rfl; rfl; all_goals (intro hc; simp only [hc]; try simp only [beq_iff_eq, decide_eq_true_eq, beq_eq_false_iff_ne, decide_eq_false_iff_not, bne_iff_ne, ne_eq, Bool.not_eq_true', Bool.not_eq_false', Int.not_le, Int.not_lt, bne_eq_false_iff_eq, Bool.or_eq_true, Bool.and_eq_true, Bool.or_eq_false_iff] at hc)))
    apply SeqP.eff
    · rfl
    intro KE hKE
    go_wp2_with fail
    refine (same_out (o.1, o.2.1, []) (none, 0, 0) (none, 0, 0) _ (.inl ⟨rfl, rfl⟩) (.inl ⟨rfl, rfl⟩)).mono ?_
    rintro e wv ⟨rfl, hb⟩
    have hbv : Below w7.heap.size w7 wv := below_trans hby hb hby.size
    refine hKE _ _ (hTP' _ hbv) ?_
    clear hKE KE hb
    go_wp2_with (first
      | (apply SeqP.skip; rfl; simp only [Act.put, List.setIfInBounds_toArray, List.set_cons_zero, List.set_cons_succ])
      | (apply SeqP.call; rfl; rfl; (intro w2 hw; have hw := hTP _ hw; (skip); go_simp; exact ⟨rfl, rfl⟩); (intro w2 hw; have hw := hTP _ hw; (skip); (first | fail)); simp only [Act.put, List.setIfInBounds_toArray, List.set_cons_zero, List.set_cons_succ])
      | (apply SeqP.pure; rfl; (intro w2 hw; have hw := hTP _ hw; (skip); go_simp; with_reducible rfl); simp only [Act.put, List.setIfInBounds_toArray, List.set_cons_zero, List.set_cons_succ])
      | (apply SeqP.split; rfl; rfl; all_goals (intro hc; simp only [hc]; try simp only [beq_iff_eq, decide_eq_true_eq, beq_eq_false_iff_ne, decide_eq_false_iff_not, bne_iff_ne, ne_eq, Bool.not_eq_true', Bool.not_eq_false', Int.not_le, Int.not_lt, bne_eq_false_iff_eq, Bool.or_eq_true, Bool.and_eq_true, Bool.or_eq_false_iff] at hc)))
    apply SeqP.eff
    · rfl
    intro KE hKE
    go_wp2_with fail
    refine (works_any _).mono ?_
    rintro e wz ⟨rfl, hb⟩
    have hbz : Below w7.heap.size w7 wz := below_trans hbv hb hbv.size
    refine hKE _ _ (hTP' _ hbz) ?_
    clear hKE KE hb
    go_wp2_with (first
      | (apply SeqP.skip; rfl; simp only [Act.put, List.setIfInBounds_toArray, List.set_cons_zero, List.set_cons_succ])
      | (apply SeqP.call; rfl; rfl; (intro w2 hw; have hw := hTP _ hw; (skip); go_simp; exact ⟨rfl, rfl⟩); (intro w2 hw; have hw := hTP _ hw; (skip); (first | fail)); simp only [Act.put, List.setIfInBounds_toArray, List.set_cons_zero, List.set_cons_succ])
      | (apply SeqP.pure; rfl; (intro w2 hw; have hw := hTP _ hw; (skip); go_simp; with_reducible rfl); simp only [Act.put, List.setIfInBounds_toArray, List.set_cons_zero, List.set_cons_succ])
      | (apply SeqP.split; rfl; rfl; all_goals (intro hc; simp only [hc]; try simp only [beq_iff_eq, decide_eq_true_eq, beq_eq_false_iff_ne, decide_eq_false_iff_not, bne_iff_ne, ne_eq, Bool.not_eq_true', Bool.not_eq_false', Int.not_le, Int.not_lt, bne_eq_false_iff_eq, Bool.or_eq_true, Bool.and_eq_true, Bool.or_eq_false_iff] at hc)))
    apply SeqP.nil
    refine hKP _ _ (hTP' _ (hbz)) ?_
    clear hKP hTP hTP'
    go_wp2_with fail
    go_ret
    exact ⟨rfl, below_trans hw7 hbz hw7.size⟩
end Go.Proofs.Ytifeokabecgimaa
