/-
  The walk over the statement 'FoldsNext'.
-/
import Derived.Test.YtifeokabecgimaaWorks13
import Derived.Test.YtifeokabecgimaaOpen2
import Derived.Test.YtifeokabecgimaaMid
import Derived.Test.YtifeokabecgimaaFoldLaws2
import Derived.Test.YtifeokabecgimaaSeqZ
set_option linter.unusedSimpArgs false
set_option linter.unusedVariables false
set_option maxRecDepth 100000
namespace Go.Proofs.Ytifeokabecgimaa
open Go Go.RowKit Go.Sq Go.Wd Go.Arch

set_option maxHeartbeats 8000000 in
theorem foldsNext_walk (l : List Ent) (A : Option Addr) (c : Nat) (x : Ent) (w : World) (ha : Ents w w.heap.size A l) (hl : l.length ≤ 9223372036854775807) (hwf : ∀ e ∈ l, wfEnt e) (hx : wfEnt x) :
    Calls Try.prog 9 #[.slice A l.length c, .agg #[.int .i64 x.1, .int .i64 x.2.1, .int .i64 x.2.2.1, .int .i64 x.2.2.2.1, .int .i64 x.2.2.2.2.1, .int .i64 x.2.2.2.2.2]] w fun e w' => e = .returned (.bool true) ∧ Below w.heap.size w w' := by
  have hw := Below.refl w.heap.size w
  have EA : ∀ {w' : World}, Below w.heap.size w w' → Ents w' w'.heap.size A l := fun h => (ha.below h).more h.size
  clear ha
  have hwf' : ∀ e ∈ l ++ [x], (Lit.int .i64 e.2.1).wf = true := fun e he => by
    rcases List.mem_append.1 he with h | h
    · exact (hwf e h).2.1
    · obtain rfl := List.mem_singleton.1 h
      exact hx.2.1
  have HW := Lib.hid hwf'
  clear hwf hx hwf'
  have hbX : Below w.heap.size w (w.alloc (.cells #[.int .i64 x.1, .int .i64 x.2.1, .int .i64 x.2.2.1, .int .i64 x.2.2.2.1, .int .i64 x.2.2.2.2.1, .int .i64 x.2.2.2.2.2] 45)) := hw.alloc (Nat.le_refl _) _
  by_cases h1 : 300 < l.length
  · go_enter Try.func9, Try.ntmps9
    go_wp2_with fail
    go_ret
    exact ⟨rfl, hbX⟩
  have l1 : l.length ≤ 300 := by omega
  clear h1
  have BX := Blk.new w 45 (vals x)
  go_enter Try.func9, Try.ntmps9
  go_wp2_with fail
  refine (find_any l A c x.2.1 _ (EA hbX) (by omega)).mono ?_
  rintro e w1 ⟨rfl, hb⟩
  have hw1 := below_trans hbX hb hbX.size
  have BX1 := BX.keep hb
  have hz1 := hb.size
  simp at hz1
  clear hb hbX BX
  cases hf : firstIn l l.length x.2.1 with
  | some p =>
    simp only [Option.isSome_some]
    go_wp2_with fail
    refine (works_any _).mono ?_
    rintro e wz ⟨rfl, hb⟩
    go_wp2_with fail
    go_ret
    exact ⟨rfl, below_trans hw1 hb hw1.size⟩
  | none =>
  simp only [Option.isSome_none]
  have HF := Lib.hid (fold_next l x hf)
  clear hf
  have hlen : (foldS l).2.length = l.length := fold_len l l.length (Nat.le_refl _)
  go_wp2_with fail
  refine (of_any l A c _ (EA hw1) (by omega) (fun e he => HW.out e (List.mem_append_left _ he))).mono ?_
  rintro e w2 ⟨v2, rfl, hO, hb⟩
  have hw2 := below_trans hw1 hb hw1.size
  have BX2 := BX1.keep hb
  have R2 := hO.toR
  have hz2 := hb.size
  clear hO hb hw1 BX1
  have HL := Lib.hid hlen
  clear hlen
  generalize foldS l = fl at HF HL R2 ⊢
  obtain ⟨s, outs⟩ := fl
  dsimp only at HF HL R2 ⊢
  simp only [stv]
  have hbS : Below w2.heap.size w2 (w2.alloc (.cells (stv s).toArray 25)) := (Below.refl _ _).alloc (Nat.le_refl _) _
  have hBS := below_trans hw2 hbS hw2.size
  have R3 := R2.keep hbS
  have BX3 := BX2.keep hbS
  have BS3 := Blk.new w2 25 (stv s)
  simp only [stv] at hbS hBS R3 BX3 BS3
  have hns : (w2.alloc (.cells #[.int .i64 s.tag, .bool s.closed, .int .i64 s.sum, .int .i64 s.ver] 25)).heap.size = w2.heap.size + 1 := by simp
  generalize hW3 : w2.alloc (.cells #[.int .i64 s.tag, .bool s.closed, .int .i64 s.sum, .int .i64 s.ver] 25) = w3 at hbS hBS R3 BX3 BS3 hns
  clear R2 BX2 hbS hw2 hw
  go_wp2_with fail
  clear hW3 hns
  obtain ⟨A2, c2, rfl, _, _, _⟩ := R3
  rw [HL.out]
  have hEA := EA hBS
  have hDec : ∀ W, Calls Try.prog 24 #[.agg #[.int .i64 s.tag, .bool s.closed, .int .i64 s.sum, .int .i64 s.ver], .agg #[.int .i64 x.2.1, .int .i64 x.2.2.1, .int .i64 x.2.2.2.1, .int .i64 x.2.2.2.2.1, .int .i64 x.2.2.2.2.2]] W fun e w' =>
      ∃ sl : Sl, e = .returned (.agg #[.int .i64 (decS s (ordOf x)).2.1, .int .i64 (decS s (ordOf x)).2.2.1, .slice sl.1 sl.2.1 sl.2.2]) ∧ EvAt w' W.heap.size none sl (decS s (ordOf x)).2.2.2 ∧ Below W.heap.size W w' := fun W => decide_out s (ordOf x) W
  have HD := Lib.hid (And.intro (fun k a => @decS_ev s (ordOf x) k a) (@decS_nil s (ordOf x)))
  generalize decS s (ordOf x) = d at HD HF hDec
  obtain ⟨ds, dc, dv, evs⟩ := d
  dsimp only at HD HF hDec
  have x0 : ∀ w2, Below w3.heap.size w3 w2 → w2.cell? ⟨w.heap.size, 0, none⟩ = some (.int .i64 x.1) := fun w2 h => (BX3.keep h).cell 0
  have x1 : ∀ w2, Below w3.heap.size w3 w2 → w2.cell? ⟨w.heap.size, 1, none⟩ = some (.int .i64 x.2.1) := fun w2 h => (BX3.keep h).cell 1
  have x2 : ∀ w2, Below w3.heap.size w3 w2 → w2.cell? ⟨w.heap.size, 2, none⟩ = some (.int .i64 x.2.2.1) := fun w2 h => (BX3.keep h).cell 2
  have x3 : ∀ w2, Below w3.heap.size w3 w2 → w2.cell? ⟨w.heap.size, 3, none⟩ = some (.int .i64 x.2.2.2.1) := fun w2 h => (BX3.keep h).cell 3
  have x4 : ∀ w2, Below w3.heap.size w3 w2 → w2.cell? ⟨w.heap.size, 4, none⟩ = some (.int .i64 x.2.2.2.2.1) := fun w2 h => (BX3.keep h).cell 4
  have x5 : ∀ w2, Below w3.heap.size w3 w2 → w2.cell? ⟨w.heap.size, 5, none⟩ = some (.int .i64 x.2.2.2.2.2) := fun w2 h => (BX3.keep h).cell 5
  have HX := Lib.hid (And.intro x0 (And.intro x1 (And.intro x2 (And.intro x3 (And.intro x4 x5)))))
  clear x0 x1 x2 x3 x4 x5
  refine wp_region_t (.quiet 1 (.quiet 3 (.three 0 4 10 (.three 2 4 10 (.two 4 10 (.two 5 10 (.two 6 10 (.quiet 7 (.quiet 8 (.quiet 9 (.one 10 (.one 11 (.quiet 12 .done)))))) (.one 6 (.quiet 7 (.quiet 8 (.quiet 9 (.one 11 (.quiet 12 .done))))))) (.one 5 (.one 6 (.quiet 7 (.quiet 8 (.quiet 9 (.one 11 (.quiet 12 .done)))))))) (.one 4 (.one 5 (.one 6 (.quiet 7 (.quiet 8 (.quiet 9 (.one 11 (.quiet 12 .done))))))))) (.two 2 10 (.two 5 10 (.two 6 10 (.quiet 7 (.quiet 8 (.quiet 9 (.one 10 (.one 11 (.quiet 12 .done)))))) (.one 6 (.quiet 7 (.quiet 8 (.quiet 9 (.one 11 (.quiet 12 .done))))))) (.one 5 (.one 6 (.quiet 7 (.quiet 8 (.quiet 9 (.one 11 (.quiet 12 .done)))))))) (.one 2 (.one 5 (.one 6 (.quiet 7 (.quiet 8 (.quiet 9 (.one 11 (.quiet 12 .done))))))))) (.two 2 4 (.one 4 (.one 5 (.one 6 (.quiet 7 (.quiet 8 (.quiet 9 (.one 11 (.quiet 12 .done)))))))) (.one 2 (.one 5 (.one 6 (.quiet 7 (.quiet 8 (.quiet 9 (.one 11 (.quiet 12 .done)))))))))) (.two 0 10 (.two 2 10 (.two 5 10 (.two 6 10 (.quiet 7 (.quiet 8 (.quiet 9 (.one 10 (.one 11 (.quiet 12 .done)))))) (.one 6 (.quiet 7 (.quiet 8 (.quiet 9 (.one 11 (.quiet 12 .done))))))) (.one 5 (.one 6 (.quiet 7 (.quiet 8 (.quiet 9 (.one 11 (.quiet 12 .done)))))))) (.one 2 (.one 5 (.one 6 (.quiet 7 (.quiet 8 (.quiet 9 (.one 11 (.quiet 12 .done))))))))) (.one 0 (.one 2 (.one 5 (.one 6 (.quiet 7 (.quiet 8 (.quiet 9 (.one 11 (.quiet 12 .done)))))))))) (.two 0 4 (.two 2 4 (.one 4 (.one 5 (.one 6 (.quiet 7 (.quiet 8 (.quiet 9 (.one 11 (.quiet 12 .done)))))))) (.one 2 (.one 5 (.one 6 (.quiet 7 (.quiet 8 (.quiet 9 (.one 11 (.quiet 12 .done))))))))) (.one 0 (.one 2 (.one 5 (.one 6 (.quiet 7 (.quiet 8 (.quiet 9 (.one 11 (.quiet 12 .done))))))))))))) (fun w' => Below w3.heap.size w3 w') (by kernel_rfl) (by kernel_rfl) (by kernel_rfl) (by kernel_rfl) ((Below.refl _ _).drew) rfl ?_
  intro KP RP TP hKP hTP hTP'
  simp only [Sch.fill, nth]
  apply merge6 (Inv := fun g0 vL gX vM v4 g9 w' => Below w3.heap.size w3 w' ∧ Blk w' g9 25 (stv ds) ∧ OutsB w3.heap.size w' v4 (outs ++ [(dc, dv, evs)]) ∧ w3.heap.size ≤ g9) (K := KP)
  · intro HK
    have hM := Mid.start w3
    generalize w3.drew = wc at hM ⊢
    go_wp2_with (first
      | (apply SeqT.skip; rfl; simp only [Act.put, List.setIfInBounds_toArray, List.set_cons_zero, List.set_cons_succ])
      | (apply SeqT.call; rfl; rfl; (intro w2 hw; have hw := hTP _ hw; ((have x0 := HX.out.1 _ hw; have x1 := HX.out.2.1 _ hw; have x2 := HX.out.2.2.1 _ hw; have x3 := HX.out.2.2.2.1 _ hw; have x4 := HX.out.2.2.2.2.1 _ hw; have x5 := HX.out.2.2.2.2.2 _ hw)); go_simp; exact ⟨rfl, rfl⟩); (intro w2 hw; have hw := hTP _ hw; ((have x0 := HX.out.1 _ hw; have x1 := HX.out.2.1 _ hw; have x2 := HX.out.2.2.1 _ hw; have x3 := HX.out.2.2.2.1 _ hw; have x4 := HX.out.2.2.2.2.1 _ hw; have x5 := HX.out.2.2.2.2.2 _ hw)); (first | fail)); simp only [Act.put, List.setIfInBounds_toArray, List.set_cons_zero, List.set_cons_succ])
      | (apply SeqT.pure; rfl; (intro w2 hw; have hw := hTP _ hw; ((have x0 := HX.out.1 _ hw; have x1 := HX.out.2.1 _ hw; have x2 := HX.out.2.2.1 _ hw; have x3 := HX.out.2.2.2.1 _ hw; have x4 := HX.out.2.2.2.2.1 _ hw; have x5 := HX.out.2.2.2.2.2 _ hw)); go_simp; with_reducible rfl); simp only [Act.put, List.setIfInBounds_toArray, List.set_cons_zero, List.set_cons_succ]))
    all_goals first | apply SeqT.three | apply SeqT.two | apply SeqT.one
    all_goals first
      | (refine EffT.is (some 34) rfl ?_
         obtain ⟨vL, wd, hrun, hM'⟩ := hM.app1 c (hEA) (by omega)
         apply EffT.go
         · rfl
         intro KE hKE
         refine oper_app (by rfl) (by rfl) (by rfl) hrun ?_
         refine hKE _ _ (hTP' _ hM'.hb) ?_
         clear hrun
         clear hKE KE hM
         clear wc
         obtain ⟨wc, rfl⟩ : ∃ z, z = wd := ⟨_, rfl⟩
         have hM := hM'
         clear hM')
      | (refine EffT.is (some 37) rfl ?_
         obtain ⟨vM, wd, hrun, hM'⟩ := hM.app2 ([x]).length (by simp; omega)
         apply EffT.go
         · rfl
         intro KE hKE
         refine oper_app (by rfl) (by rfl) (by rfl) hrun ?_
         refine hKE _ _ (hTP' _ hM'.hb) ?_
         clear hrun
         clear hKE KE hM
         clear wc
         obtain ⟨wc, rfl⟩ : ∃ z, z = wd := ⟨_, rfl⟩
         have hM := hM'
         clear hM')
      | (refine EffT.is (some 32) rfl ?_
         apply EffT.go
         · rfl
         intro KE hKE
         go_wp2_with fail
         have hM' := hM.row0
         refine hKE _ _ (hTP' _ hM'.hb) ?_
         generalize wc.heap.size = g0 at hM' ⊢
         generalize wc.alloc (.cells #[] 45) = wd at hM' ⊢
         clear hKE KE hM
         clear wc
         obtain ⟨wc, rfl⟩ : ∃ z, z = wd := ⟨_, rfl⟩
         have hM := hM'
         clear hM')
      | (refine EffT.is (some 36) rfl ?_
         apply EffT.go
         · rfl
         intro KE hKE
         go_wp2_with fail
         have hM' := hM.lit [x]
         simp only [flat, List.flatMap_cons, List.flatMap_nil, vals, List.append_nil, List.cons_append, List.nil_append] at hM'
         refine hKE _ _ (hTP' _ hM'.hb) ?_
         generalize wc.heap.size = gX at hM' ⊢
         generalize World.alloc wc _ = wd at hM' ⊢
         clear hKE KE hM
         clear wc
         obtain ⟨wc, rfl⟩ : ∃ z, z = wd := ⟨_, rfl⟩
         have hM := hM'
         clear hM')
      | (refine EffT.is (some 9) rfl ?_
         apply EffT.go
         · rfl
         intro KE hKE
         go_wp2_with fail
         have hM' := hM.state
         simp only [stv] at hM'
         refine hKE _ _ (hTP' _ hM'.hb) ?_
         try replace hO := hO.next (show Below wc.heap.size wc (wc.alloc (.cells #[.int .i64 0, .bool false, .int .i64 0, .int .i64 0] 25)) from (Below.refl _ _).alloc (Nat.le_refl _) _)
         generalize wc.alloc (.cells #[.int .i64 0, .bool false, .int .i64 0, .int .i64 0] 25) = wd at *
         generalize wc.heap.size = g9 at *
         clear hKE KE hM
         clear wc
         obtain ⟨wc, rfl⟩ : ∃ z, z = wd := ⟨_, rfl⟩
         have hM := hM'
         clear hM')
      | (refine EffT.is (some 38) rfl ?_
         apply EffT.go
         · rfl
         intro KE hKE
         go_wp2_with fail
         refine (hM.of (by simp; omega) HW.out).mono ?_
         rintro e wd ⟨v4, rfl, hM', hO⟩
         rw [HF.out] at hO ⊢; simp only [stv] at hO ⊢
         refine hKE _ _ (hTP' _ hM'.hb) ?_
         clear hKE KE hM
         clear wc
         obtain ⟨wc, rfl⟩ : ∃ z, z = wd := ⟨_, rfl⟩
         have hM := hM'
         clear hM')
      | (refine EffT.is none rfl ?_
         obtain ⟨hb9, _, _⟩ := hM.st _ rfl
         have c0 := hb9.cell 0
         have c1 := hb9.cell 1
         have c2 := hb9.cell 2
         have c3 := hb9.cell 3
         have f0 := hb9.frozen 0
         have f1 := hb9.frozen 1
         have f2 := hb9.frozen 2
         have f3 := hb9.frozen 3
         simp [stv] at c0 c1 c2 c3
         have hZ := hM.stored hO ds rfl
         clear hb9 hM hO
         apply EffT.go
         · rfl
         intro KE hKE
         go_wp2_with fail
         refine hKE _ _ (hTP' _ hZ.1) ?_
         clear hKE KE)
    all_goals first | apply SeqT.three | apply SeqT.two | apply SeqT.one
    all_goals first
      | (refine EffT.is (some 34) rfl ?_
         obtain ⟨vL, wd, hrun, hM'⟩ := hM.app1 c (hEA) (by omega)
         apply EffT.go
         · rfl
         intro KE hKE
         refine oper_app (by rfl) (by rfl) (by rfl) hrun ?_
         refine hKE _ _ (hTP' _ hM'.hb) ?_
         clear hrun
         clear hKE KE hM
         clear wc
         obtain ⟨wc, rfl⟩ : ∃ z, z = wd := ⟨_, rfl⟩
         have hM := hM'
         clear hM')
      | (refine EffT.is (some 37) rfl ?_
         obtain ⟨vM, wd, hrun, hM'⟩ := hM.app2 ([x]).length (by simp; omega)
         apply EffT.go
         · rfl
         intro KE hKE
         refine oper_app (by rfl) (by rfl) (by rfl) hrun ?_
         refine hKE _ _ (hTP' _ hM'.hb) ?_
         clear hrun
         clear hKE KE hM
         clear wc
         obtain ⟨wc, rfl⟩ : ∃ z, z = wd := ⟨_, rfl⟩
         have hM := hM'
         clear hM')
      | (refine EffT.is (some 32) rfl ?_
         apply EffT.go
         · rfl
         intro KE hKE
         go_wp2_with fail
         have hM' := hM.row0
         refine hKE _ _ (hTP' _ hM'.hb) ?_
         generalize wc.heap.size = g0 at hM' ⊢
         generalize wc.alloc (.cells #[] 45) = wd at hM' ⊢
         clear hKE KE hM
         clear wc
         obtain ⟨wc, rfl⟩ : ∃ z, z = wd := ⟨_, rfl⟩
         have hM := hM'
         clear hM')
      | (refine EffT.is (some 36) rfl ?_
         apply EffT.go
         · rfl
         intro KE hKE
         go_wp2_with fail
         have hM' := hM.lit [x]
         simp only [flat, List.flatMap_cons, List.flatMap_nil, vals, List.append_nil, List.cons_append, List.nil_append] at hM'
         refine hKE _ _ (hTP' _ hM'.hb) ?_
         generalize wc.heap.size = gX at hM' ⊢
         generalize World.alloc wc _ = wd at hM' ⊢
         clear hKE KE hM
         clear wc
         obtain ⟨wc, rfl⟩ : ∃ z, z = wd := ⟨_, rfl⟩
         have hM := hM'
         clear hM')
      | (refine EffT.is (some 9) rfl ?_
         apply EffT.go
         · rfl
         intro KE hKE
         go_wp2_with fail
         have hM' := hM.state
         simp only [stv] at hM'
         refine hKE _ _ (hTP' _ hM'.hb) ?_
         try replace hO := hO.next (show Below wc.heap.size wc (wc.alloc (.cells #[.int .i64 0, .bool false, .int .i64 0, .int .i64 0] 25)) from (Below.refl _ _).alloc (Nat.le_refl _) _)
         generalize wc.alloc (.cells #[.int .i64 0, .bool false, .int .i64 0, .int .i64 0] 25) = wd at *
         generalize wc.heap.size = g9 at *
         clear hKE KE hM
         clear wc
         obtain ⟨wc, rfl⟩ : ∃ z, z = wd := ⟨_, rfl⟩
         have hM := hM'
         clear hM')
      | (refine EffT.is (some 38) rfl ?_
         apply EffT.go
         · rfl
         intro KE hKE
         go_wp2_with fail
         refine (hM.of (by simp; omega) HW.out).mono ?_
         rintro e wd ⟨v4, rfl, hM', hO⟩
         rw [HF.out] at hO ⊢; simp only [stv] at hO ⊢
         refine hKE _ _ (hTP' _ hM'.hb) ?_
         clear hKE KE hM
         clear wc
         obtain ⟨wc, rfl⟩ : ∃ z, z = wd := ⟨_, rfl⟩
         have hM := hM'
         clear hM')
      | (refine EffT.is none rfl ?_
         obtain ⟨hb9, _, _⟩ := hM.st _ rfl
         have c0 := hb9.cell 0
         have c1 := hb9.cell 1
         have c2 := hb9.cell 2
         have c3 := hb9.cell 3
         have f0 := hb9.frozen 0
         have f1 := hb9.frozen 1
         have f2 := hb9.frozen 2
         have f3 := hb9.frozen 3
         simp [stv] at c0 c1 c2 c3
         have hZ := hM.stored hO ds rfl
         clear hb9 hM hO
         apply EffT.go
         · rfl
         intro KE hKE
         go_wp2_with fail
         refine hKE _ _ (hTP' _ hZ.1) ?_
         clear hKE KE)
    all_goals first | apply SeqT.three | apply SeqT.two | apply SeqT.one
    all_goals first
      | (refine EffT.is (some 34) rfl ?_
         obtain ⟨vL, wd, hrun, hM'⟩ := hM.app1 c (hEA) (by omega)
         apply EffT.go
         · rfl
         intro KE hKE
         refine oper_app (by rfl) (by rfl) (by rfl) hrun ?_
         refine hKE _ _ (hTP' _ hM'.hb) ?_
         clear hrun
         clear hKE KE hM
         clear wc
         obtain ⟨wc, rfl⟩ : ∃ z, z = wd := ⟨_, rfl⟩
         have hM := hM'
         clear hM')
      | (refine EffT.is (some 37) rfl ?_
         obtain ⟨vM, wd, hrun, hM'⟩ := hM.app2 ([x]).length (by simp; omega)
         apply EffT.go
         · rfl
         intro KE hKE
         refine oper_app (by rfl) (by rfl) (by rfl) hrun ?_
         refine hKE _ _ (hTP' _ hM'.hb) ?_
         clear hrun
         clear hKE KE hM
         clear wc
         obtain ⟨wc, rfl⟩ : ∃ z, z = wd := ⟨_, rfl⟩
         have hM := hM'
         clear hM')
      | (refine EffT.is (some 32) rfl ?_
         apply EffT.go
         · rfl
         intro KE hKE
         go_wp2_with fail
         have hM' := hM.row0
         refine hKE _ _ (hTP' _ hM'.hb) ?_
         generalize wc.heap.size = g0 at hM' ⊢
         generalize wc.alloc (.cells #[] 45) = wd at hM' ⊢
         clear hKE KE hM
         clear wc
         obtain ⟨wc, rfl⟩ : ∃ z, z = wd := ⟨_, rfl⟩
         have hM := hM'
         clear hM')
      | (refine EffT.is (some 36) rfl ?_
         apply EffT.go
         · rfl
         intro KE hKE
         go_wp2_with fail
         have hM' := hM.lit [x]
         simp only [flat, List.flatMap_cons, List.flatMap_nil, vals, List.append_nil, List.cons_append, List.nil_append] at hM'
         refine hKE _ _ (hTP' _ hM'.hb) ?_
         generalize wc.heap.size = gX at hM' ⊢
         generalize World.alloc wc _ = wd at hM' ⊢
         clear hKE KE hM
         clear wc
         obtain ⟨wc, rfl⟩ : ∃ z, z = wd := ⟨_, rfl⟩
         have hM := hM'
         clear hM')
      | (refine EffT.is (some 9) rfl ?_
         apply EffT.go
         · rfl
         intro KE hKE
         go_wp2_with fail
         have hM' := hM.state
         simp only [stv] at hM'
         refine hKE _ _ (hTP' _ hM'.hb) ?_
         try replace hO := hO.next (show Below wc.heap.size wc (wc.alloc (.cells #[.int .i64 0, .bool false, .int .i64 0, .int .i64 0] 25)) from (Below.refl _ _).alloc (Nat.le_refl _) _)
         generalize wc.alloc (.cells #[.int .i64 0, .bool false, .int .i64 0, .int .i64 0] 25) = wd at *
         generalize wc.heap.size = g9 at *
         clear hKE KE hM
         clear wc
         obtain ⟨wc, rfl⟩ : ∃ z, z = wd := ⟨_, rfl⟩
         have hM := hM'
         clear hM')
      | (refine EffT.is (some 38) rfl ?_
         apply EffT.go
         · rfl
         intro KE hKE
         go_wp2_with fail
         refine (hM.of (by simp; omega) HW.out).mono ?_
         rintro e wd ⟨v4, rfl, hM', hO⟩
         rw [HF.out] at hO ⊢; simp only [stv] at hO ⊢
         refine hKE _ _ (hTP' _ hM'.hb) ?_
         clear hKE KE hM
         clear wc
         obtain ⟨wc, rfl⟩ : ∃ z, z = wd := ⟨_, rfl⟩
         have hM := hM'
         clear hM')
      | (refine EffT.is none rfl ?_
         obtain ⟨hb9, _, _⟩ := hM.st _ rfl
         have c0 := hb9.cell 0
         have c1 := hb9.cell 1
         have c2 := hb9.cell 2
         have c3 := hb9.cell 3
         have f0 := hb9.frozen 0
         have f1 := hb9.frozen 1
         have f2 := hb9.frozen 2
         have f3 := hb9.frozen 3
         simp [stv] at c0 c1 c2 c3
         have hZ := hM.stored hO ds rfl
         clear hb9 hM hO
         apply EffT.go
         · rfl
         intro KE hKE
         go_wp2_with fail
         refine hKE _ _ (hTP' _ hZ.1) ?_
         clear hKE KE)
    all_goals first | apply SeqT.three | apply SeqT.two | apply SeqT.one
    all_goals first
      | (refine EffT.is (some 34) rfl ?_
         obtain ⟨vL, wd, hrun, hM'⟩ := hM.app1 c (hEA) (by omega)
         apply EffT.go
         · rfl
         intro KE hKE
         refine oper_app (by rfl) (by rfl) (by rfl) hrun ?_
         refine hKE _ _ (hTP' _ hM'.hb) ?_
         clear hrun
         clear hKE KE hM
         clear wc
         obtain ⟨wc, rfl⟩ : ∃ z, z = wd := ⟨_, rfl⟩
         have hM := hM'
         clear hM')
      | (refine EffT.is (some 37) rfl ?_
         obtain ⟨vM, wd, hrun, hM'⟩ := hM.app2 ([x]).length (by simp; omega)
         apply EffT.go
         · rfl
         intro KE hKE
         refine oper_app (by rfl) (by rfl) (by rfl) hrun ?_
         refine hKE _ _ (hTP' _ hM'.hb) ?_
         clear hrun
         clear hKE KE hM
         clear wc
         obtain ⟨wc, rfl⟩ : ∃ z, z = wd := ⟨_, rfl⟩
         have hM := hM'
         clear hM')
      | (refine EffT.is (some 32) rfl ?_
         apply EffT.go
         · rfl
         intro KE hKE
         go_wp2_with fail
         have hM' := hM.row0
         refine hKE _ _ (hTP' _ hM'.hb) ?_
         generalize wc.heap.size = g0 at hM' ⊢
         generalize wc.alloc (.cells #[] 45) = wd at hM' ⊢
         clear hKE KE hM
         clear wc
         obtain ⟨wc, rfl⟩ : ∃ z, z = wd := ⟨_, rfl⟩
         have hM := hM'
         clear hM')
      | (refine EffT.is (some 36) rfl ?_
         apply EffT.go
         · rfl
         intro KE hKE
         go_wp2_with fail
         have hM' := hM.lit [x]
         simp only [flat, List.flatMap_cons, List.flatMap_nil, vals, List.append_nil, List.cons_append, List.nil_append] at hM'
         refine hKE _ _ (hTP' _ hM'.hb) ?_
         generalize wc.heap.size = gX at hM' ⊢
         generalize World.alloc wc _ = wd at hM' ⊢
         clear hKE KE hM
         clear wc
         obtain ⟨wc, rfl⟩ : ∃ z, z = wd := ⟨_, rfl⟩
         have hM := hM'
         clear hM')
      | (refine EffT.is (some 9) rfl ?_
         apply EffT.go
         · rfl
         intro KE hKE
         go_wp2_with fail
         have hM' := hM.state
         simp only [stv] at hM'
         refine hKE _ _ (hTP' _ hM'.hb) ?_
         try replace hO := hO.next (show Below wc.heap.size wc (wc.alloc (.cells #[.int .i64 0, .bool false, .int .i64 0, .int .i64 0] 25)) from (Below.refl _ _).alloc (Nat.le_refl _) _)
         generalize wc.alloc (.cells #[.int .i64 0, .bool false, .int .i64 0, .int .i64 0] 25) = wd at *
         generalize wc.heap.size = g9 at *
         clear hKE KE hM
         clear wc
         obtain ⟨wc, rfl⟩ : ∃ z, z = wd := ⟨_, rfl⟩
         have hM := hM'
         clear hM')
      | (refine EffT.is (some 38) rfl ?_
         apply EffT.go
         · rfl
         intro KE hKE
         go_wp2_with fail
         refine (hM.of (by simp; omega) HW.out).mono ?_
         rintro e wd ⟨v4, rfl, hM', hO⟩
         rw [HF.out] at hO ⊢; simp only [stv] at hO ⊢
         refine hKE _ _ (hTP' _ hM'.hb) ?_
         clear hKE KE hM
         clear wc
         obtain ⟨wc, rfl⟩ : ∃ z, z = wd := ⟨_, rfl⟩
         have hM := hM'
         clear hM')
      | (refine EffT.is none rfl ?_
         obtain ⟨hb9, _, _⟩ := hM.st _ rfl
         have c0 := hb9.cell 0
         have c1 := hb9.cell 1
         have c2 := hb9.cell 2
         have c3 := hb9.cell 3
         have f0 := hb9.frozen 0
         have f1 := hb9.frozen 1
         have f2 := hb9.frozen 2
         have f3 := hb9.frozen 3
         simp [stv] at c0 c1 c2 c3
         have hZ := hM.stored hO ds rfl
         clear hb9 hM hO
         apply EffT.go
         · rfl
         intro KE hKE
         go_wp2_with fail
         refine hKE _ _ (hTP' _ hZ.1) ?_
         clear hKE KE)
    all_goals first | apply SeqT.three | apply SeqT.two | apply SeqT.one
    all_goals first
      | (refine EffT.is (some 34) rfl ?_
         obtain ⟨vL, wd, hrun, hM'⟩ := hM.app1 c (hEA) (by omega)
         apply EffT.go
         · rfl
         intro KE hKE
         refine oper_app (by rfl) (by rfl) (by rfl) hrun ?_
         refine hKE _ _ (hTP' _ hM'.hb) ?_
         clear hrun
         clear hKE KE hM
         clear wc
         obtain ⟨wc, rfl⟩ : ∃ z, z = wd := ⟨_, rfl⟩
         have hM := hM'
         clear hM')
      | (refine EffT.is (some 37) rfl ?_
         obtain ⟨vM, wd, hrun, hM'⟩ := hM.app2 ([x]).length (by simp; omega)
         apply EffT.go
         · rfl
         intro KE hKE
         refine oper_app (by rfl) (by rfl) (by rfl) hrun ?_
         refine hKE _ _ (hTP' _ hM'.hb) ?_
         clear hrun
         clear hKE KE hM
         clear wc
         obtain ⟨wc, rfl⟩ : ∃ z, z = wd := ⟨_, rfl⟩
         have hM := hM'
         clear hM')
      | (refine EffT.is (some 32) rfl ?_
         apply EffT.go
         · rfl
         intro KE hKE
         go_wp2_with fail
         have hM' := hM.row0
         refine hKE _ _ (hTP' _ hM'.hb) ?_
         generalize wc.heap.size = g0 at hM' ⊢
         generalize wc.alloc (.cells #[] 45) = wd at hM' ⊢
         clear hKE KE hM
         clear wc
         obtain ⟨wc, rfl⟩ : ∃ z, z = wd := ⟨_, rfl⟩
         have hM := hM'
         clear hM')
      | (refine EffT.is (some 36) rfl ?_
         apply EffT.go
         · rfl
         intro KE hKE
         go_wp2_with fail
         have hM' := hM.lit [x]
         simp only [flat, List.flatMap_cons, List.flatMap_nil, vals, List.append_nil, List.cons_append, List.nil_append] at hM'
         refine hKE _ _ (hTP' _ hM'.hb) ?_
         generalize wc.heap.size = gX at hM' ⊢
         generalize World.alloc wc _ = wd at hM' ⊢
         clear hKE KE hM
         clear wc
         obtain ⟨wc, rfl⟩ : ∃ z, z = wd := ⟨_, rfl⟩
         have hM := hM'
         clear hM')
      | (refine EffT.is (some 9) rfl ?_
         apply EffT.go
         · rfl
         intro KE hKE
         go_wp2_with fail
         have hM' := hM.state
         simp only [stv] at hM'
         refine hKE _ _ (hTP' _ hM'.hb) ?_
         try replace hO := hO.next (show Below wc.heap.size wc (wc.alloc (.cells #[.int .i64 0, .bool false, .int .i64 0, .int .i64 0] 25)) from (Below.refl _ _).alloc (Nat.le_refl _) _)
         generalize wc.alloc (.cells #[.int .i64 0, .bool false, .int .i64 0, .int .i64 0] 25) = wd at *
         generalize wc.heap.size = g9 at *
         clear hKE KE hM
         clear wc
         obtain ⟨wc, rfl⟩ : ∃ z, z = wd := ⟨_, rfl⟩
         have hM := hM'
         clear hM')
      | (refine EffT.is (some 38) rfl ?_
         apply EffT.go
         · rfl
         intro KE hKE
         go_wp2_with fail
         refine (hM.of (by simp; omega) HW.out).mono ?_
         rintro e wd ⟨v4, rfl, hM', hO⟩
         rw [HF.out] at hO ⊢; simp only [stv] at hO ⊢
         refine hKE _ _ (hTP' _ hM'.hb) ?_
         clear hKE KE hM
         clear wc
         obtain ⟨wc, rfl⟩ : ∃ z, z = wd := ⟨_, rfl⟩
         have hM := hM'
         clear hM')
      | (refine EffT.is none rfl ?_
         obtain ⟨hb9, _, _⟩ := hM.st _ rfl
         have c0 := hb9.cell 0
         have c1 := hb9.cell 1
         have c2 := hb9.cell 2
         have c3 := hb9.cell 3
         have f0 := hb9.frozen 0
         have f1 := hb9.frozen 1
         have f2 := hb9.frozen 2
         have f3 := hb9.frozen 3
         simp [stv] at c0 c1 c2 c3
         have hZ := hM.stored hO ds rfl
         clear hb9 hM hO
         apply EffT.go
         · rfl
         intro KE hKE
         go_wp2_with fail
         refine hKE _ _ (hTP' _ hZ.1) ?_
         clear hKE KE)
    all_goals try (go_wp2_with (first
      | (apply SeqT.skip; rfl; simp only [Act.put, List.setIfInBounds_toArray, List.set_cons_zero, List.set_cons_succ])
      | (apply SeqT.call; rfl; rfl; (intro w2 hw; have hw := hTP _ hw; (skip); go_simp; exact ⟨rfl, rfl⟩); (intro w2 hw; have hw := hTP _ hw; (skip); (first | fail)); simp only [Act.put, List.setIfInBounds_toArray, List.set_cons_zero, List.set_cons_succ])
      | (apply SeqT.pure; rfl; (intro w2 hw; have hw := hTP _ hw; (skip); go_simp; with_reducible rfl); simp only [Act.put, List.setIfInBounds_toArray, List.set_cons_zero, List.set_cons_succ])))
    all_goals first | apply SeqT.three | apply SeqT.two | apply SeqT.one
    all_goals first
      | (refine EffT.is (some 34) rfl ?_
         obtain ⟨vL, wd, hrun, hM'⟩ := hM.app1 c (hEA) (by omega)
         apply EffT.go
         · rfl
         intro KE hKE
         refine oper_app (by rfl) (by rfl) (by rfl) hrun ?_
         refine hKE _ _ (hTP' _ hM'.hb) ?_
         clear hrun
         clear hKE KE hM
         clear wc
         obtain ⟨wc, rfl⟩ : ∃ z, z = wd := ⟨_, rfl⟩
         have hM := hM'
         clear hM')
      | (refine EffT.is (some 37) rfl ?_
         obtain ⟨vM, wd, hrun, hM'⟩ := hM.app2 ([x]).length (by simp; omega)
         apply EffT.go
         · rfl
         intro KE hKE
         refine oper_app (by rfl) (by rfl) (by rfl) hrun ?_
         refine hKE _ _ (hTP' _ hM'.hb) ?_
         clear hrun
         clear hKE KE hM
         clear wc
         obtain ⟨wc, rfl⟩ : ∃ z, z = wd := ⟨_, rfl⟩
         have hM := hM'
         clear hM')
      | (refine EffT.is (some 32) rfl ?_
         apply EffT.go
         · rfl
         intro KE hKE
         go_wp2_with fail
         have hM' := hM.row0
         refine hKE _ _ (hTP' _ hM'.hb) ?_
         generalize wc.heap.size = g0 at hM' ⊢
         generalize wc.alloc (.cells #[] 45) = wd at hM' ⊢
         clear hKE KE hM
         clear wc
         obtain ⟨wc, rfl⟩ : ∃ z, z = wd := ⟨_, rfl⟩
         have hM := hM'
         clear hM')
      | (refine EffT.is (some 36) rfl ?_
         apply EffT.go
         · rfl
         intro KE hKE
         go_wp2_with fail
         have hM' := hM.lit [x]
         simp only [flat, List.flatMap_cons, List.flatMap_nil, vals, List.append_nil, List.cons_append, List.nil_append] at hM'
         refine hKE _ _ (hTP' _ hM'.hb) ?_
         generalize wc.heap.size = gX at hM' ⊢
         generalize World.alloc wc _ = wd at hM' ⊢
         clear hKE KE hM
         clear wc
         obtain ⟨wc, rfl⟩ : ∃ z, z = wd := ⟨_, rfl⟩
         have hM := hM'
         clear hM')
      | (refine EffT.is (some 9) rfl ?_
         apply EffT.go
         · rfl
         intro KE hKE
         go_wp2_with fail
         have hM' := hM.state
         simp only [stv] at hM'
         refine hKE _ _ (hTP' _ hM'.hb) ?_
         try replace hO := hO.next (show Below wc.heap.size wc (wc.alloc (.cells #[.int .i64 0, .bool false, .int .i64 0, .int .i64 0] 25)) from (Below.refl _ _).alloc (Nat.le_refl _) _)
         generalize wc.alloc (.cells #[.int .i64 0, .bool false, .int .i64 0, .int .i64 0] 25) = wd at *
         generalize wc.heap.size = g9 at *
         clear hKE KE hM
         clear wc
         obtain ⟨wc, rfl⟩ : ∃ z, z = wd := ⟨_, rfl⟩
         have hM := hM'
         clear hM')
      | (refine EffT.is (some 38) rfl ?_
         apply EffT.go
         · rfl
         intro KE hKE
         go_wp2_with fail
         refine (hM.of (by simp; omega) HW.out).mono ?_
         rintro e wd ⟨v4, rfl, hM', hO⟩
         rw [HF.out] at hO ⊢; simp only [stv] at hO ⊢
         refine hKE _ _ (hTP' _ hM'.hb) ?_
         clear hKE KE hM
         clear wc
         obtain ⟨wc, rfl⟩ : ∃ z, z = wd := ⟨_, rfl⟩
         have hM := hM'
         clear hM')
      | (refine EffT.is none rfl ?_
         obtain ⟨hb9, _, _⟩ := hM.st _ rfl
         have c0 := hb9.cell 0
         have c1 := hb9.cell 1
         have c2 := hb9.cell 2
         have c3 := hb9.cell 3
         have f0 := hb9.frozen 0
         have f1 := hb9.frozen 1
         have f2 := hb9.frozen 2
         have f3 := hb9.frozen 3
         simp [stv] at c0 c1 c2 c3
         have hZ := hM.stored hO ds rfl
         clear hb9 hM hO
         apply EffT.go
         · rfl
         intro KE hKE
         go_wp2_with fail
         refine hKE _ _ (hTP' _ hZ.1) ?_
         clear hKE KE)
    all_goals try (go_wp2_with (first
      | (apply SeqT.skip; rfl; simp only [Act.put, List.setIfInBounds_toArray, List.set_cons_zero, List.set_cons_succ])
      | (apply SeqT.call; rfl; rfl; (intro w2 hw; have hw := hTP _ hw; (skip); go_simp; exact ⟨rfl, rfl⟩); (intro w2 hw; have hw := hTP _ hw; (skip); (first | fail)); simp only [Act.put, List.setIfInBounds_toArray, List.set_cons_zero, List.set_cons_succ])
      | (apply SeqT.pure; rfl; (intro w2 hw; have hw := hTP _ hw; (skip); go_simp; with_reducible rfl); simp only [Act.put, List.setIfInBounds_toArray, List.set_cons_zero, List.set_cons_succ])))
    all_goals first | apply SeqT.three | apply SeqT.two | apply SeqT.one
    all_goals first
      | (refine EffT.is (some 34) rfl ?_
         obtain ⟨vL, wd, hrun, hM'⟩ := hM.app1 c (hEA) (by omega)
         apply EffT.go
         · rfl
         intro KE hKE
         refine oper_app (by rfl) (by rfl) (by rfl) hrun ?_
         refine hKE _ _ (hTP' _ hM'.hb) ?_
         clear hrun
         clear hKE KE hM
         clear wc
         obtain ⟨wc, rfl⟩ : ∃ z, z = wd := ⟨_, rfl⟩
         have hM := hM'
         clear hM')
      | (refine EffT.is (some 37) rfl ?_
         obtain ⟨vM, wd, hrun, hM'⟩ := hM.app2 ([x]).length (by simp; omega)
         apply EffT.go
         · rfl
         intro KE hKE
         refine oper_app (by rfl) (by rfl) (by rfl) hrun ?_
         refine hKE _ _ (hTP' _ hM'.hb) ?_
         clear hrun
         clear hKE KE hM
         clear wc
         obtain ⟨wc, rfl⟩ : ∃ z, z = wd := ⟨_, rfl⟩
         have hM := hM'
         clear hM')
      | (refine EffT.is (some 32) rfl ?_
         apply EffT.go
         · rfl
         intro KE hKE
         go_wp2_with fail
         have hM' := hM.row0
         refine hKE _ _ (hTP' _ hM'.hb) ?_
         generalize wc.heap.size = g0 at hM' ⊢
         generalize wc.alloc (.cells #[] 45) = wd at hM' ⊢
         clear hKE KE hM
         clear wc
         obtain ⟨wc, rfl⟩ : ∃ z, z = wd := ⟨_, rfl⟩
         have hM := hM'
         clear hM')
      | (refine EffT.is (some 36) rfl ?_
         apply EffT.go
         · rfl
         intro KE hKE
         go_wp2_with fail
         have hM' := hM.lit [x]
         simp only [flat, List.flatMap_cons, List.flatMap_nil, vals, List.append_nil, List.cons_append, List.nil_append] at hM'
         refine hKE _ _ (hTP' _ hM'.hb) ?_
         generalize wc.heap.size = gX at hM' ⊢
         generalize World.alloc wc _ = wd at hM' ⊢
         clear hKE KE hM
         clear wc
         obtain ⟨wc, rfl⟩ : ∃ z, z = wd := ⟨_, rfl⟩
         have hM := hM'
         clear hM')
      | (refine EffT.is (some 9) rfl ?_
         apply EffT.go
         · rfl
         intro KE hKE
         go_wp2_with fail
         have hM' := hM.state
         simp only [stv] at hM'
         refine hKE _ _ (hTP' _ hM'.hb) ?_
         try replace hO := hO.next (show Below wc.heap.size wc (wc.alloc (.cells #[.int .i64 0, .bool false, .int .i64 0, .int .i64 0] 25)) from (Below.refl _ _).alloc (Nat.le_refl _) _)
         generalize wc.alloc (.cells #[.int .i64 0, .bool false, .int .i64 0, .int .i64 0] 25) = wd at *
         generalize wc.heap.size = g9 at *
         clear hKE KE hM
         clear wc
         obtain ⟨wc, rfl⟩ : ∃ z, z = wd := ⟨_, rfl⟩
         have hM := hM'
         clear hM')
      | (refine EffT.is (some 38) rfl ?_
         apply EffT.go
         · rfl
         intro KE hKE
         go_wp2_with fail
         refine (hM.of (by simp; omega) HW.out).mono ?_
         rintro e wd ⟨v4, rfl, hM', hO⟩
         rw [HF.out] at hO ⊢; simp only [stv] at hO ⊢
         refine hKE _ _ (hTP' _ hM'.hb) ?_
         clear hKE KE hM
         clear wc
         obtain ⟨wc, rfl⟩ : ∃ z, z = wd := ⟨_, rfl⟩
         have hM := hM'
         clear hM')
      | (refine EffT.is none rfl ?_
         obtain ⟨hb9, _, _⟩ := hM.st _ rfl
         have c0 := hb9.cell 0
         have c1 := hb9.cell 1
         have c2 := hb9.cell 2
         have c3 := hb9.cell 3
         have f0 := hb9.frozen 0
         have f1 := hb9.frozen 1
         have f2 := hb9.frozen 2
         have f3 := hb9.frozen 3
         simp [stv] at c0 c1 c2 c3
         have hZ := hM.stored hO ds rfl
         clear hb9 hM hO
         apply EffT.go
         · rfl
         intro KE hKE
         go_wp2_with fail
         refine hKE _ _ (hTP' _ hZ.1) ?_
         clear hKE KE)
    all_goals try (go_wp2_with (first
      | (apply SeqT.skip; rfl; simp only [Act.put, List.setIfInBounds_toArray, List.set_cons_zero, List.set_cons_succ])
      | (apply SeqT.call; rfl; rfl; (intro w2 hw; have hw := hTP _ hw; (skip); go_simp; exact ⟨rfl, rfl⟩); (intro w2 hw; have hw := hTP _ hw; (skip); (first | fail)); simp only [Act.put, List.setIfInBounds_toArray, List.set_cons_zero, List.set_cons_succ])
      | (apply SeqT.pure; rfl; (intro w2 hw; have hw := hTP _ hw; (skip); go_simp; with_reducible rfl); simp only [Act.put, List.setIfInBounds_toArray, List.set_cons_zero, List.set_cons_succ])))
    all_goals
      apply SeqT.done
      exact HK g0 vL gX vM v4 g9 _ hZ
  · intro g0 vL gX vM v4 g9 w4 hI
    refine hKP _ _ (hTP' _ hI.1) ?_
    clear hKP hTP hTP' KP RP TP
    obtain ⟨hb4, B9, RO, h9⟩ := hI
    have hw4 := below_trans hBS hb4 hBS.size
    have BS4 := BS3.keep hb4
    have hz4 := hb4.size
    have hz3 := BS3.lt
    obtain ⟨A4, c4, rfl, q1, q2, R4⟩ := RO
    obtain ⟨go, slo, rfl, hgo3, hgo, hevo, o0, o1, o2⟩ := R4 l.length (dc, dv, evs) (by rw [List.getElem?_append_right (by rw [HL.out]; exact Nat.le_refl _), HL.out, Nat.sub_self]; rfl)
    have hln : (outs ++ [(dc, dv, evs)]).length = l.length + 1 := by rw [List.length_append, HL.out]; rfl
    rw [hln] at q1 ⊢
    have s0 := BS4.cell 0
    have s1 := BS4.cell 1
    have s2 := BS4.cell 2
    have s3 := BS4.cell 3
    have x0 := HX.out.1 _ hb4
    have x1 := HX.out.2.1 _ hb4
    have x2 := HX.out.2.2.1 _ hb4
    have x3 := HX.out.2.2.2.1 _ hb4
    have x4 := HX.out.2.2.2.2.1 _ hb4
    have x5 := HX.out.2.2.2.2.2 _ hb4
    simp at s0 s1 s2 s3
    clear R4 hln hb4 BS3 BX3
    go_wp2_with fail
    refine (hDec _).mono ?_
    rintro e w5 ⟨sl, rfl, hev, hb⟩
    have hw5 := below_trans hw4 hb hw4.size
    have hz5 := hb.size
    have BS5 := BS4.keep hb
    have B95 := B9.keep hb
    have h94 := B9.lt
    have o0' := (hb.cell (p := ⟨go, _, none⟩) hgo).trans o0
    have o1' := (hb.cell (p := ⟨go, _, none⟩) hgo).trans o1
    have o2' := (hb.cell (p := ⟨go, _, none⟩) hgo).trans o2
    have hevo' := hevo.pure hb
    clear s0 s1 s2 s3 x0 x1 x2 x3 x4 x5 o0 o1 o2 hevo BS4 B9 hb hDec
    have hbS : Below w5.heap.size w5 (w5.alloc (.cells #[.int .i64 dc, .int .i64 dv, .slice sl.1 sl.2.1 sl.2.2] 33)) := (Below.refl _ _).alloc (Nat.le_refl _) _
    have hw6 := below_trans hw5 hbS hw5.size
    have BS6 := BS5.keep hbS
    have B96 := B95.keep hbS
    have BW6 := Blk.new w5 33 [.int .i64 dc, .int .i64 dv, .slice sl.1 sl.2.1 sl.2.2]
    have o0 := (hbS.cell (p := ⟨go, _, none⟩) (by simp; omega)).trans o0'
    have o1 := (hbS.cell (p := ⟨go, _, none⟩) (by simp; omega)).trans o1'
    have o2 := (hbS.cell (p := ⟨go, _, none⟩) (by simp; omega)).trans o2'
    have hevo := hevo'.pure hbS
    have hev6 := hev.pure hbS
    have hsz6 : (w5.alloc (.cells #[.int .i64 dc, .int .i64 dv, .slice sl.1 sl.2.1 sl.2.2] 33)).heap.size = w5.heap.size + 1 := by simp
    generalize hW6 : w5.alloc (.cells #[.int .i64 dc, .int .i64 dv, .slice sl.1 sl.2.1 sl.2.2] 33) = w6 at hbS hw6 BS6 B96 BW6 o0 o1 o2 hevo hev6 hsz6
    clear o0' o1' o2' hevo' hev BS5 B95 hbS hw5 hw4
    go_wp2_with fail
    clear hW6
    have W2 := BW6.cell 2
    simp at W2
    have wl : IntKind.i64.wrap ((l.length : Int) + 1) = (l.length : Int) + 1 := IntWalk.i64_in _ (by omega)
    have hq : ((((l.length + 1 : Nat)) : Int) == (l.length : Int) + 1) = true := by simp
    have hi1 : (l.length : Int) < (l.length : Int) + 1 := by omega
    by_cases hevs : evs = []
    · obtain rfl : sl = (none, 0, 0) := by
        rcases hev6 with h | ⟨_, _, _, _, h, _⟩
        · exact h.2
        · rw [hevs] at h; cases h
      obtain rfl : ds = s := HD.out.2 hevs
      go_wp2_with fail
      refine wp_loop_rounds 1 ?_
      rw [rounds_succ]
      go_wp2_with fail
      have hgx : go < w6.heap.size := by omega
      have BSx : Blk w6 w2.heap.size 25 (stv ds) := BS6
      have BWx : Blk w6 w5.heap.size 33 [.int .i64 dc, .int .i64 dv, .slice none 0 0] := BW6
      have B9x := B96
      have hwx := hw6
      obtain ⟨wx, rfl⟩ : ∃ z, z = w6 := ⟨_, rfl⟩
      have hevn := hev6
      clear BS6 BW6 B96 hw6 hsz6 W2 hev6 HD hevs
      refine wp_region_p ([(0, true), (1, true), (2, true), (3, true), (4, true), (5, true), (6, true), (7, true), (8, true), (9, true), (10, true), (11, true), (12, true), (13, false), (14, true), (15, true), (16, true), (17, true), (18, true), (19, true), (20, true), (21, false), (22, true), (23, true)]) (fun w' => Below wx.heap.size wx w') (by kernel_rfl) rfl (by kernel_rfl) (by kernel_rfl) ((Below.refl _ _).drew) rfl ?_
      intro KP RP TP hKP hTP hTP'
      simp only [pick, nth]
      go_wp2_with (first
        | (apply SeqP.skip; rfl; simp only [Act.put, List.setIfInBounds_toArray, List.set_cons_zero, List.set_cons_succ])
        | (apply SeqP.call; rfl; rfl; (intro w2 hw; have hw := hTP _ hw; ((have z0 := (hw.cell (p := ⟨go, _, none⟩) hgx).trans o0; have z1 := (hw.cell (p := ⟨go, _, none⟩) hgx).trans o1; have z2 := (hw.cell (p := ⟨go, _, none⟩) hgx).trans o2; have t0 := (BWx.keep hw).cell 0; have t1 := (BWx.keep hw).cell 1; have t2 := (BWx.keep hw).cell 2; have u0 := (BSx.keep hw).cell 0; have u1 := (BSx.keep hw).cell 1; have u2 := (BSx.keep hw).cell 2; have u3 := (BSx.keep hw).cell 3; have v0 := (B9x.keep hw).cell 0; have v1 := (B9x.keep hw).cell 1; have v2 := (B9x.keep hw).cell 2; have v3 := (B9x.keep hw).cell 3; simp [stv] at t0 t1 t2 u0 u1 u2 u3 v0 v1 v2 v3)); go_simp; exact ⟨rfl, rfl⟩); (intro w2 hw; have hw := hTP _ hw; ((have z0 := (hw.cell (p := ⟨go, _, none⟩) hgx).trans o0; have z1 := (hw.cell (p := ⟨go, _, none⟩) hgx).trans o1; have z2 := (hw.cell (p := ⟨go, _, none⟩) hgx).trans o2; have t0 := (BWx.keep hw).cell 0; have t1 := (BWx.keep hw).cell 1; have t2 := (BWx.keep hw).cell 2; have u0 := (BSx.keep hw).cell 0; have u1 := (BSx.keep hw).cell 1; have u2 := (BSx.keep hw).cell 2; have u3 := (BSx.keep hw).cell 3; have v0 := (B9x.keep hw).cell 0; have v1 := (B9x.keep hw).cell 1; have v2 := (B9x.keep hw).cell 2; have v3 := (B9x.keep hw).cell 3; simp [stv] at t0 t1 t2 u0 u1 u2 u3 v0 v1 v2 v3)); (first | fail)); simp only [Act.put, List.setIfInBounds_toArray, List.set_cons_zero, List.set_cons_succ])
        | (apply SeqP.pure; rfl; (intro w2 hw; have hw := hTP _ hw; ((have z0 := (hw.cell (p := ⟨go, _, none⟩) hgx).trans o0; have z1 := (hw.cell (p := ⟨go, _, none⟩) hgx).trans o1; have z2 := (hw.cell (p := ⟨go, _, none⟩) hgx).trans o2; have t0 := (BWx.keep hw).cell 0; have t1 := (BWx.keep hw).cell 1; have t2 := (BWx.keep hw).cell 2; have u0 := (BSx.keep hw).cell 0; have u1 := (BSx.keep hw).cell 1; have u2 := (BSx.keep hw).cell 2; have u3 := (BSx.keep hw).cell 3; have v0 := (B9x.keep hw).cell 0; have v1 := (B9x.keep hw).cell 1; have v2 := (B9x.keep hw).cell 2; have v3 := (B9x.keep hw).cell 3; simp [stv] at t0 t1 t2 u0 u1 u2 u3 v0 v1 v2 v3)); go_simp; with_reducible rfl); simp only [Act.put, List.setIfInBounds_toArray, List.set_cons_zero, List.set_cons_succ])
        | (apply SeqP.split; rfl; rfl; all_goals (intro hc; simp only [hc]; try simp only [beq_iff_eq, decide_eq_true_eq, beq_eq_false_iff_ne, decide_eq_false_iff_not, bne_iff_ne, ne_eq, Bool.not_eq_true', Bool.not_eq_false', Int.not_le, Int.not_lt, bne_eq_false_iff_eq, Bool.or_eq_true, Bool.and_eq_true, Bool.or_eq_false_iff] at hc)))
      apply SeqP.eff
      · rfl
      intro KE hKE
      go_wp2_with fail
      refine (same_out (dc, dv, evs) slo (none, 0, 0) _ (hevo.read.pure (Below.refl _ _).drew) (hevn.read.pure (Below.refl _ _).drew)).mono ?_
      rintro e wy ⟨rfl, hb⟩
      have hby : Below wx.heap.size wx wy := below_trans (Below.refl _ _).drew hb (Nat.le_refl _)
      refine hKE _ _ (hTP' _ hby) ?_
      clear hKE KE hb
      go_wp2_with (first
        | (apply SeqP.skip; rfl; simp only [Act.put, List.setIfInBounds_toArray, List.set_cons_zero, List.set_cons_succ])
        | (apply SeqP.call; rfl; rfl; (intro w2 hw; have hw := hTP _ hw; ((have u0 := (BSx.keep hw).cell 0; have u1 := (BSx.keep hw).cell 1; have u2 := (BSx.keep hw).cell 2; have u3 := (BSx.keep hw).cell 3; have v0 := (B9x.keep hw).cell 0; have v1 := (B9x.keep hw).cell 1; have v2 := (B9x.keep hw).cell 2; have v3 := (B9x.keep hw).cell 3; simp [stv] at u0 u1 u2 u3 v0 v1 v2 v3)); go_simp; exact ⟨rfl, rfl⟩); (intro w2 hw; have hw := hTP _ hw; ((have u0 := (BSx.keep hw).cell 0; have u1 := (BSx.keep hw).cell 1; have u2 := (BSx.keep hw).cell 2; have u3 := (BSx.keep hw).cell 3; have v0 := (B9x.keep hw).cell 0; have v1 := (B9x.keep hw).cell 1; have v2 := (B9x.keep hw).cell 2; have v3 := (B9x.keep hw).cell 3; simp [stv] at u0 u1 u2 u3 v0 v1 v2 v3)); (first | fail)); simp only [Act.put, List.setIfInBounds_toArray, List.set_cons_zero, List.set_cons_succ])
        | (apply SeqP.pure; rfl; (intro w2 hw; have hw := hTP _ hw; ((have u0 := (BSx.keep hw).cell 0; have u1 := (BSx.keep hw).cell 1; have u2 := (BSx.keep hw).cell 2; have u3 := (BSx.keep hw).cell 3; have v0 := (B9x.keep hw).cell 0; have v1 := (B9x.keep hw).cell 1; have v2 := (B9x.keep hw).cell 2; have v3 := (B9x.keep hw).cell 3; simp [stv] at u0 u1 u2 u3 v0 v1 v2 v3)); go_simp; with_reducible rfl); simp only [Act.put, List.setIfInBounds_toArray, List.set_cons_zero, List.set_cons_succ])
        | (apply SeqP.split; rfl; rfl; all_goals (intro hc; simp only [hc]; try simp only [beq_iff_eq, decide_eq_true_eq, beq_eq_false_iff_ne, decide_eq_false_iff_not, bne_iff_ne, ne_eq, Bool.not_eq_true', Bool.not_eq_false', Int.not_le, Int.not_lt, bne_eq_false_iff_eq, Bool.or_eq_true, Bool.and_eq_true, Bool.or_eq_false_iff] at hc)))
      apply SeqP.eff
      · rfl
      intro KE hKE
      go_wp2_with fail
      refine (works_any _).mono ?_
      rintro e wz ⟨rfl, hb⟩
      have hbz : Below wx.heap.size wx wz := below_trans hby hb hby.size
      refine hKE _ _ (hTP' _ hbz) ?_
      clear hKE KE hb
      go_wp2_with (first
        | (apply SeqP.skip; rfl; simp only [Act.put, List.setIfInBounds_toArray, List.set_cons_zero, List.set_cons_succ])
        | (apply SeqP.call; rfl; rfl; (intro w2 hw; have hw := hTP _ hw; (skip); go_simp; exact ⟨rfl, rfl⟩); (intro w2 hw; have hw := hTP _ hw; (skip); (first | fail)); simp only [Act.put, List.setIfInBounds_toArray, List.set_cons_zero, List.set_cons_succ])
        | (apply SeqP.pure; rfl; (intro w2 hw; have hw := hTP _ hw; (skip); go_simp; with_reducible rfl); simp only [Act.put, List.setIfInBounds_toArray, List.set_cons_zero, List.set_cons_succ])
        | (apply SeqP.split; rfl; rfl; all_goals (intro hc; simp only [hc]; try simp only [beq_iff_eq, decide_eq_true_eq, beq_eq_false_iff_ne, decide_eq_false_iff_not, bne_iff_ne, ne_eq, Bool.not_eq_true', Bool.not_eq_false', Int.not_le, Int.not_lt, bne_eq_false_iff_eq, Bool.or_eq_true, Bool.and_eq_true, Bool.or_eq_false_iff] at hc)))
      apply SeqP.nil
      refine hKP _ _ (hTP' _ (hbz)) ?_
      clear hKP hTP hTP'
      go_wp2_with fail
      go_ret
      exact ⟨rfl, below_trans hwx hbz hwx.size⟩
    · have hev7 := hev6
      rcases hev7 with h | ⟨g, k, a, rfl, rfl, g1, g2, g3, g4, g5, g6, g7⟩
      · exact absurd h.1 hevs
      clear hevs
      go_wp2_with fail
      refine wp_loop_rounds 2 ?_
      rw [rounds_succ]
      go_wp2_with fail
      refine wp_region_z [(0, true), (1, true), (2, true), (3, true), (4, true), (5, true), (6, false)] 7 (fun w' => Blk w' w2.heap.size 25 (stv s) ∧ Below w6.heap.size w6 w') (by kernel_rfl) (by kernel_rfl) (by kernel_rfl) (⟨Blk.drew BS6, (Below.refl _ _).drew⟩) rfl ?_
      intro KP RP TP hKP hTP hTP'
      simp only [pick, nth]
      go_wp2_with (first
        | (apply SeqP.skip; rfl; simp only [Act.put, List.setIfInBounds_toArray, List.set_cons_zero, List.set_cons_succ])
        | (apply SeqP.call; rfl; rfl; (intro w2 hw; have hw := hTP _ hw; ((obtain ⟨q0, hbb⟩ := hw; have s0 := q0.cell 0; have s1 := q0.cell 1; have s2 := q0.cell 2; have s3 := q0.cell 3; simp [stv] at s0 s1 s2 s3; have z2 := (hbb.cell (p := ⟨w5.heap.size, 2, none⟩) (show w5.heap.size < w6.heap.size by omega)).trans W2; have z3 := (hbb.cell (p := ⟨g, 0, none⟩) g2).trans g4; have z4 := (hbb.cell (p := ⟨g, 1, none⟩) g2).trans g5)); go_simp; exact ⟨rfl, rfl⟩); (intro w2 hw; have hw := hTP _ hw; ((obtain ⟨q0, hbb⟩ := hw; have s0 := q0.cell 0; have s1 := q0.cell 1; have s2 := q0.cell 2; have s3 := q0.cell 3; simp [stv] at s0 s1 s2 s3; have z2 := (hbb.cell (p := ⟨w5.heap.size, 2, none⟩) (show w5.heap.size < w6.heap.size by omega)).trans W2; have z3 := (hbb.cell (p := ⟨g, 0, none⟩) g2).trans g4; have z4 := (hbb.cell (p := ⟨g, 1, none⟩) g2).trans g5)); (first | fail)); simp only [Act.put, List.setIfInBounds_toArray, List.set_cons_zero, List.set_cons_succ])
        | (apply SeqP.pure; rfl; (intro w2 hw; have hw := hTP _ hw; ((obtain ⟨q0, hbb⟩ := hw; have s0 := q0.cell 0; have s1 := q0.cell 1; have s2 := q0.cell 2; have s3 := q0.cell 3; simp [stv] at s0 s1 s2 s3; have z2 := (hbb.cell (p := ⟨w5.heap.size, 2, none⟩) (show w5.heap.size < w6.heap.size by omega)).trans W2; have z3 := (hbb.cell (p := ⟨g, 0, none⟩) g2).trans g4; have z4 := (hbb.cell (p := ⟨g, 1, none⟩) g2).trans g5)); go_simp; with_reducible rfl); simp only [Act.put, List.setIfInBounds_toArray, List.set_cons_zero, List.set_cons_succ])
        | (apply SeqP.split; rfl; rfl; all_goals (intro hc; simp only [hc]; try simp only [beq_iff_eq, decide_eq_true_eq, beq_eq_false_iff_ne, decide_eq_false_iff_not, bne_iff_ne, ne_eq, Bool.not_eq_true', Bool.not_eq_false', Int.not_le, Int.not_lt, bne_eq_false_iff_eq, Bool.or_eq_true, Bool.and_eq_true, Bool.or_eq_false_iff] at hc)))
      apply SeqP.eff
      · rfl
      intro KE hKE
      go_wp2_with fail
      refine (apply_any _ _ _ _ _ _ _).mono ?_
      rintro e w7 ⟨rfl, hb⟩
      generalize hap : applyS ⟨s.tag, s.closed, s.sum, s.ver⟩ ⟨k, a⟩ = p
      obtain rfl : p = ds := by rw [← hap]; exact (HD.out.1 k a rfl).symm
      clear hap
      have hbd : Below w6.heap.size w6 w7 := below_trans (Below.refl _ _).drew hb (Nat.le_refl _)
      refine hKE _ _ (hTP' _ ⟨Blk.keep BS6 hbd, hbd⟩) ?_
      clear hKE KE hTP hTP' hb
      have BS7 := BS6.keep hbd
      have B97 := B96.keep hbd
      have BW7 := BW6.keep hbd
      have o0' := (hbd.cell (p := ⟨go, _, none⟩) (show go < w6.heap.size by omega)).trans o0
      have o1' := (hbd.cell (p := ⟨go, _, none⟩) (show go < w6.heap.size by omega)).trans o1
      have o2' := (hbd.cell (p := ⟨go, _, none⟩) (show go < w6.heap.size by omega)).trans o2
      have hgr : w7.grownBy ((((w7.setCell ⟨w2.heap.size, 0, none⟩ (.int .i64 p.tag)).setCell ⟨w2.heap.size, 1, none⟩ (.bool p.closed)).setCell ⟨w2.heap.size, 2, none⟩ (.int .i64 p.sum)).setCell ⟨w2.heap.size, 3, none⟩ (.int .i64 p.ver)) (some w2.heap.size) := by
        (repeat (first | with_reducible apply only_drew | with_reducible refine only_setCell ?_ (by first | exact Or.inl rfl | (right; simp; done) | (right; simp; omega) | (right; omega)) _ | with_reducible refine only_alloc ?_ _ | with_reducible exact World.grownBy.refl _ _ | with_reducible assumption))
      have BSx : Blk ((((w7.setCell ⟨w2.heap.size, 0, none⟩ (.int .i64 p.tag)).setCell ⟨w2.heap.size, 1, none⟩ (.bool p.closed)).setCell ⟨w2.heap.size, 2, none⟩ (.int .i64 p.sum)).setCell ⟨w2.heap.size, 3, none⟩ (.int .i64 p.ver)) w2.heap.size 25 (stv p) := ((((BS7.set 0 (.int .i64 p.tag)).set 1 (.bool p.closed)).set 2 (.int .i64 p.sum)).set 3 (.int .i64 p.ver)).of_eq rfl
      have hz7 := hbd.size
      have far : ∀ (b j : Nat), b ≠ w2.heap.size → ((((w7.setCell ⟨w2.heap.size, 0, none⟩ (.int .i64 p.tag)).setCell ⟨w2.heap.size, 1, none⟩ (.bool p.closed)).setCell ⟨w2.heap.size, 2, none⟩ (.int .i64 p.sum)).setCell ⟨w2.heap.size, 3, none⟩ (.int .i64 p.ver)).cell? ⟨b, j, none⟩ = w7.cell? ⟨b, j, none⟩ := fun b j hb => by
        exact (World.cell?_setCell_far _ _ _ _ (fun e => hb e.symm)).trans ((World.cell?_setCell_far _ _ _ _ (fun e => hb e.symm)).trans ((World.cell?_setCell_far _ _ _ _ (fun e => hb e.symm)).trans (World.cell?_setCell_far _ _ _ _ (fun e => hb e.symm))))
      have B9x : Blk _ g9 _ _ := B97.grown hgr (fun e => by cases e; omega)
      have BWx : Blk _ w5.heap.size _ _ := BW7.grown hgr (fun e => by
        have h : w5.heap.size = w2.heap.size := by simpa using e
        omega)
      have p0 := (far go (l.length * 3) (by omega)).trans o0'
      have p1 := (far go (l.length * 3 + 1) (by omega)).trans o1'
      have p2 := (far go (l.length * 3 + 2) (by omega)).trans o2'
      have W2x := (far w5.heap.size 2 (by omega)).trans ((hbd.cell (p := ⟨w5.heap.size, 2, none⟩) (show w5.heap.size < w6.heap.size by omega)).trans W2)
      have hevx := (hevo.pure hbd).keep hgr (fun g e => .inl (by
        have h : w2.heap.size = g := by simpa using e
        omega))
      have hevn := (hev6.pure hbd).keep hgr (fun g e => .inl (by
        have h : w2.heap.size = g := by simpa using e
        omega))
      have hwx : Below w.heap.size w ((((w7.setCell ⟨w2.heap.size, 0, none⟩ (.int .i64 p.tag)).setCell ⟨w2.heap.size, 1, none⟩ (.bool p.closed)).setCell ⟨w2.heap.size, 2, none⟩ (.int .i64 p.sum)).setCell ⟨w2.heap.size, 3, none⟩ (.int .i64 p.ver)) := below_only (below_trans hw6 hbd hw6.size) hgr (by omega) (by omega)
      have hgx : go < ((((w7.setCell ⟨w2.heap.size, 0, none⟩ (.int .i64 p.tag)).setCell ⟨w2.heap.size, 1, none⟩ (.bool p.closed)).setCell ⟨w2.heap.size, 2, none⟩ (.int .i64 p.sum)).setCell ⟨w2.heap.size, 3, none⟩ (.int .i64 p.ver)).heap.size := by simp [World.setCell]; omega
      have HXX := Lib.hid (And.intro BSx (And.intro B9x (And.intro BWx (And.intro hevx (And.intro hevn (And.intro hwx hgx))))))
      have f0 := BS7.frozen 0
      have f1 := BS7.frozen 1
      have f2 := BS7.frozen 2
      have f3 := BS7.frozen 3
      have s0 := BS7.cell 0
      have s1 := BS7.cell 1
      have s2 := BS7.cell 2
      have s3 := BS7.cell 3
      simp [stv] at s0 s1 s2 s3
      have WW := Lib.hid W2x
      clear BSx B9x BWx hevx hevn hwx hgx hgr hevo hev6 BS6 BW6 B96 BS7 BW7 B97 hbd o0 o1 o2 o0' o1' o2' g4 g5 g6 g7 W2 hw6 hsz6
      apply SeqP.nil
      apply LastZ.eff
      · rfl
      go_wp2_with fail
      obtain ⟨BSx, B9x, BWx, hevo, hevn, hwx, hgx⟩ := HXX.out
      have W2x := WW.out
      clear HXX WW
      generalize (((w7.setCell ⟨w2.heap.size, 0, none⟩ (.int .i64 p.tag)).setCell ⟨w2.heap.size, 1, none⟩ (.bool p.closed)).setCell ⟨w2.heap.size, 2, none⟩ (.int .i64 p.sum)).setCell ⟨w2.heap.size, 3, none⟩ (.int .i64 p.ver) = wx at *
      have o0 := p0
      have o1 := p1
      have o2 := p2
      clear p0 p1 p2 far s0 s1 s2 s3 f0 f1 f2 f3
      rw [rounds_succ]
      go_wp2_with fail
      refine wp_region_p ([(0, true), (1, true), (2, true), (3, true), (4, true), (5, true), (6, true), (7, true), (8, true), (9, true), (10, true), (11, true), (12, true), (13, false), (14, true), (15, true), (16, true), (17, true), (18, true), (19, true), (20, true), (21, false), (22, true), (23, true)]) (fun w' => Below wx.heap.size wx w') (by kernel_rfl) rfl (by kernel_rfl) (by kernel_rfl) ((Below.refl _ _).drew) rfl ?_
      intro KP RP TP hKP hTP hTP'
      simp only [pick, nth]
      go_wp2_with (first
        | (apply SeqP.skip; rfl; simp only [Act.put, List.setIfInBounds_toArray, List.set_cons_zero, List.set_cons_succ])
        | (apply SeqP.call; rfl; rfl; (intro w2 hw; have hw := hTP _ hw; ((have z0 := (hw.cell (p := ⟨go, _, none⟩) hgx).trans o0; have z1 := (hw.cell (p := ⟨go, _, none⟩) hgx).trans o1; have z2 := (hw.cell (p := ⟨go, _, none⟩) hgx).trans o2; have t0 := (BWx.keep hw).cell 0; have t1 := (BWx.keep hw).cell 1; have t2 := (BWx.keep hw).cell 2; have u0 := (BSx.keep hw).cell 0; have u1 := (BSx.keep hw).cell 1; have u2 := (BSx.keep hw).cell 2; have u3 := (BSx.keep hw).cell 3; have v0 := (B9x.keep hw).cell 0; have v1 := (B9x.keep hw).cell 1; have v2 := (B9x.keep hw).cell 2; have v3 := (B9x.keep hw).cell 3; simp [stv] at t0 t1 t2 u0 u1 u2 u3 v0 v1 v2 v3)); go_simp; exact ⟨rfl, rfl⟩); (intro w2 hw; have hw := hTP _ hw; ((have z0 := (hw.cell (p := ⟨go, _, none⟩) hgx).trans o0; have z1 := (hw.cell (p := ⟨go, _, none⟩) hgx).trans o1; have z2 := (hw.cell (p := ⟨go, _, none⟩) hgx).trans o2; have t0 := (BWx.keep hw).cell 0; have t1 := (BWx.keep hw).cell 1; have t2 := (BWx.keep hw).cell 2; have u0 := (BSx.keep hw).cell 0; have u1 := (BSx.keep hw).cell 1; have u2 := (BSx.keep hw).cell 2; have u3 := (BSx.keep hw).cell 3; have v0 := (B9x.keep hw).cell 0; have v1 := (B9x.keep hw).cell 1; have v2 := (B9x.keep hw).cell 2; have v3 := (B9x.keep hw).cell 3; simp [stv] at t0 t1 t2 u0 u1 u2 u3 v0 v1 v2 v3)); (first | fail)); simp only [Act.put, List.setIfInBounds_toArray, List.set_cons_zero, List.set_cons_succ])
        | (apply SeqP.pure; rfl; (intro w2 hw; have hw := hTP _ hw; ((have z0 := (hw.cell (p := ⟨go, _, none⟩) hgx).trans o0; have z1 := (hw.cell (p := ⟨go, _, none⟩) hgx).trans o1; have z2 := (hw.cell (p := ⟨go, _, none⟩) hgx).trans o2; have t0 := (BWx.keep hw).cell 0; have t1 := (BWx.keep hw).cell 1; have t2 := (BWx.keep hw).cell 2; have u0 := (BSx.keep hw).cell 0; have u1 := (BSx.keep hw).cell 1; have u2 := (BSx.keep hw).cell 2; have u3 := (BSx.keep hw).cell 3; have v0 := (B9x.keep hw).cell 0; have v1 := (B9x.keep hw).cell 1; have v2 := (B9x.keep hw).cell 2; have v3 := (B9x.keep hw).cell 3; simp [stv] at t0 t1 t2 u0 u1 u2 u3 v0 v1 v2 v3)); go_simp; with_reducible rfl); simp only [Act.put, List.setIfInBounds_toArray, List.set_cons_zero, List.set_cons_succ])
        | (apply SeqP.split; rfl; rfl; all_goals (intro hc; simp only [hc]; try simp only [beq_iff_eq, decide_eq_true_eq, beq_eq_false_iff_ne, decide_eq_false_iff_not, bne_iff_ne, ne_eq, Bool.not_eq_true', Bool.not_eq_false', Int.not_le, Int.not_lt, bne_eq_false_iff_eq, Bool.or_eq_true, Bool.and_eq_true, Bool.or_eq_false_iff] at hc)))
      apply SeqP.eff
      · rfl
      intro KE hKE
      go_wp2_with fail
      refine (same_out (dc, dv, [(k, a)]) slo (some ⟨g, 0, none⟩, 1, 1) _ (hevo.read.pure (Below.refl _ _).drew) (hevn.read.pure (Below.refl _ _).drew)).mono ?_
      rintro e wy ⟨rfl, hb⟩
      have hby : Below wx.heap.size wx wy := below_trans (Below.refl _ _).drew hb (Nat.le_refl _)
      refine hKE _ _ (hTP' _ hby) ?_
      clear hKE KE hb
      go_wp2_with (first
        | (apply SeqP.skip; rfl; simp only [Act.put, List.setIfInBounds_toArray, List.set_cons_zero, List.set_cons_succ])
        | (apply SeqP.call; rfl; rfl; (intro w2 hw; have hw := hTP _ hw; ((have u0 := (BSx.keep hw).cell 0; have u1 := (BSx.keep hw).cell 1; have u2 := (BSx.keep hw).cell 2; have u3 := (BSx.keep hw).cell 3; have v0 := (B9x.keep hw).cell 0; have v1 := (B9x.keep hw).cell 1; have v2 := (B9x.keep hw).cell 2; have v3 := (B9x.keep hw).cell 3; simp [stv] at u0 u1 u2 u3 v0 v1 v2 v3)); go_simp; exact ⟨rfl, rfl⟩); (intro w2 hw; have hw := hTP _ hw; ((have u0 := (BSx.keep hw).cell 0; have u1 := (BSx.keep hw).cell 1; have u2 := (BSx.keep hw).cell 2; have u3 := (BSx.keep hw).cell 3; have v0 := (B9x.keep hw).cell 0; have v1 := (B9x.keep hw).cell 1; have v2 := (B9x.keep hw).cell 2; have v3 := (B9x.keep hw).cell 3; simp [stv] at u0 u1 u2 u3 v0 v1 v2 v3)); (first | fail)); simp only [Act.put, List.setIfInBounds_toArray, List.set_cons_zero, List.set_cons_succ])
        | (apply SeqP.pure; rfl; (intro w2 hw; have hw := hTP _ hw; ((have u0 := (BSx.keep hw).cell 0; have u1 := (BSx.keep hw).cell 1; have u2 := (BSx.keep hw).cell 2; have u3 := (BSx.keep hw).cell 3; have v0 := (B9x.keep hw).cell 0; have v1 := (B9x.keep hw).cell 1; have v2 := (B9x.keep hw).cell 2; have v3 := (B9x.keep hw).cell 3; simp [stv] at u0 u1 u2 u3 v0 v1 v2 v3)); go_simp; with_reducible rfl); simp only [Act.put, List.setIfInBounds_toArray, List.set_cons_zero, List.set_cons_succ])
        | (apply SeqP.split; rfl; rfl; all_goals (intro hc; simp only [hc]; try simp only [beq_iff_eq, decide_eq_true_eq, beq_eq_false_iff_ne, decide_eq_false_iff_not, bne_iff_ne, ne_eq, Bool.not_eq_true', Bool.not_eq_false', Int.not_le, Int.not_lt, bne_eq_false_iff_eq, Bool.or_eq_true, Bool.and_eq_true, Bool.or_eq_false_iff] at hc)))
      apply SeqP.eff
      · rfl
      intro KE hKE
      go_wp2_with fail
      refine (works_any _).mono ?_
      rintro e wz ⟨rfl, hb⟩
      have hbz : Below wx.heap.size wx wz := below_trans hby hb hby.size
      refine hKE _ _ (hTP' _ hbz) ?_
      clear hKE KE hb
      go_wp2_with (first
        | (apply SeqP.skip; rfl; simp only [Act.put, List.setIfInBounds_toArray, List.set_cons_zero, List.set_cons_succ])
        | (apply SeqP.call; rfl; rfl; (intro w2 hw; have hw := hTP _ hw; (skip); go_simp; exact ⟨rfl, rfl⟩); (intro w2 hw; have hw := hTP _ hw; (skip); (first | fail)); simp only [Act.put, List.setIfInBounds_toArray, List.set_cons_zero, List.set_cons_succ])
        | (apply SeqP.pure; rfl; (intro w2 hw; have hw := hTP _ hw; (skip); go_simp; with_reducible rfl); simp only [Act.put, List.setIfInBounds_toArray, List.set_cons_zero, List.set_cons_succ])
        | (apply SeqP.split; rfl; rfl; all_goals (intro hc; simp only [hc]; try simp only [beq_iff_eq, decide_eq_true_eq, beq_eq_false_iff_ne, decide_eq_false_iff_not, bne_iff_ne, ne_eq, Bool.not_eq_true', Bool.not_eq_false', Int.not_le, Int.not_lt, bne_eq_false_iff_eq, Bool.or_eq_true, Bool.and_eq_true, Bool.or_eq_false_iff] at hc)))
      apply SeqP.nil
      refine hKP _ _ (hTP' _ (hbz)) ?_
      clear hKP hTP hTP'
      go_wp2_with fail
      go_ret
      exact ⟨rfl, below_trans hwx hbz hwx.size⟩
end Go.Proofs.Ytifeokabecgimaa
