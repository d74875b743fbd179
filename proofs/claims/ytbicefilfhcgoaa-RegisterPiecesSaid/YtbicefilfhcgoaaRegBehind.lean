/-
  The walks over chapter 15's 'behind' and 'beyond'.
-/
import Derived.Test.YtbicefilfhcgoaaRegHeld
import Derived.Deep.LoopGhost
set_option linter.unusedSimpArgs false
set_option linter.unusedVariables false
set_option maxRecDepth 100000
namespace Go.Proofs.Ytbicefilfhcgoaa
open Go Go.RowKit Go.Sq Go.Wd Go.Arch

/-- Whether records are more than is looked at. -/
def beyondR (l : List RecV) : Bool := decide (60 < l.length) || l.any fun x => decide (100 < x.ents.length)
theorem beyondR_no {l : List RecV} (h : beyondR l = false) : l.length ≤ 60 ∧ ∀ x ∈ l, x.ents.length ≤ 100 := by
  unfold beyondR at h
  simp only [Bool.or_eq_false_iff, decide_eq_false_iff_not, List.any_eq_false] at h
  exact ⟨by omega, fun x hx => by have := h.2 x hx; simp only [decide_eq_true_eq] at this; omega⟩
theorem beyondR_long {l : List RecV} (h : 60 < l.length) : beyondR l = true := by unfold beyondR; simp [h]
theorem beyondR_at {l : List RecV} {k : Nat} {x : RecV} (hk : l[k]? = some x) (h : 100 < x.ents.length) : beyondR l = true := by
  unfold beyondR
  rw [Bool.or_eq_true]
  exact .inr (List.any_eq_true.2 ⟨x, List.mem_of_getElem? hk, by simpa using h⟩)
theorem beyondR_none {l : List RecV} (h : l.length ≤ 60) (h2 : ∀ x ∈ l, x.ents.length ≤ 100) : beyondR l = false := by
  unfold beyondR
  simp only [Bool.or_eq_false_iff, decide_eq_false_iff_not, List.any_eq_false, decide_eq_true_eq]
  exact ⟨by omega, fun x hx => by have := h2 x hx; omega⟩

set_option maxHeartbeats 2000000 in
theorem beyond15_any (l : List RecV) (A : Option Addr) (c : Nat) (w : World) (hl : Recs w w.heap.size A l) (hn : l.length ≤ 9223372036854775807) :
    Calls Try.prog 22 #[.slice A l.length c] w fun e w' => e = .returned (.bool (beyondR l)) ∧ w' = w := by
  have HE := Lib.hid hl
  clear hl
  by_cases h60 : 60 < l.length
  · have HN := Lib.hid (beyondR_long h60)
    go_enter Try.func22, Try.ntmps22
    go_wp2_with fail
    go_ret
    rw [HN.out]
    exact ⟨rfl, rfl⟩
  have h60' : l.length ≤ 60 := by omega
  go_enter Try.func22, Try.ntmps22
  go_wp2_with fail
  go_loopg [3] l.length (fun q i wr => ∃ (j : Nat), q = l.length - j ∧ j ≤ l.length ∧ i = .int .i64 j ∧ (∀ x ∈ l.take j, x.ents.length ≤ 100) ∧ wr = w)
  case atStart => exact ⟨0, rfl, by omega, rfl, by simp, rfl⟩
  case round =>
    obtain ⟨j, hq, hj, rfl, ht, rfl⟩ := hrel
    have AA : Aside (gk = l.length - j ∧ (∀ x ∈ l.take j, x.ents.length ≤ 100)) := ⟨hq, ht⟩
    clear hq ht
    by_cases hlt : j < l.length
    · obtain ⟨b1, o1, x, rfl, hx, FA, HX⟩ := HE.out.at_ hlt
      have hx6 := (FA _ (Below.refl _ _)).2.2.2.2.2.2.1
      have hxn : x.es.2.1 = x.ents.length := HX.out.1
      rw [hxn] at hx6
      clear hxn FA
      by_cases h1 : 100 < x.ents.length
      · have HN := Lib.hid (beyondR_at hx.out h1)
        go_wp2_with fail
        go_ret
        rw [HN.out]
        exact ⟨rfl, rfl⟩
      · have HT : Hid (∀ y ∈ l.take (j + 1), y.ents.length ≤ 100) := Lib.hid (by
          intro y hy
          rw [List.take_add_one, hx.out] at hy
          rcases List.mem_append.1 hy with hy | hy
          · exact AA.out.2 y hy
          · obtain rfl : y = x := by simpa using hy
            omega)
        go_wp2_with fail
        go_roundg (l.length - (j + 1))
        case measure => have hkk := AA.out.1; omega
        case rel => exact ⟨j + 1, rfl, by omega, by go_num, HT.out, rfl⟩
    · obtain rfl : j = l.length := by omega
      have HN := Lib.hid (beyondR_none h60' (by have := AA.out.2; rwa [List.take_length] at this))
      go_wp2_with fail
      go_ret
      rw [HN.out]
      exact ⟨rfl, rfl⟩

/-- The register behind records: those that may not come are left out. -/
def behindR (l : List RecV) : RegS := l.foldl (fun r x => (applyR r x.s).getD r) reg0
theorem behind_next {l : List RecV} {j : Nat} {x : RecV} (hx : l[j]? = some x) : behindR (l.take (j + 1)) = (applyR (behindR (l.take j)) x.s).getD (behindR (l.take j)) := by
  unfold behindR
  rw [List.take_add_one, hx, List.foldl_append]
  rfl
theorem behind_may : ∀ (l : List RecV) (n : Nat), mayR (behindR (l.take n)) = true
  | l, 0 => may_reg0
  | l, n + 1 => by
    have ih := behind_may l n
    cases hx : l[n]? with
    | none => rw [List.take_add_one, hx]; simpa using ih
    | some x =>
      rw [behind_next hx]
      cases hA : applyR (behindR (l.take n)) x.s with
      | none => exact ih
      | some a => exact (apply_stays hA).1
theorem regR_cases {r q : RegS} {b : Bool} {x : RecS} (h : regR (applyR r x) = (q, b)) : (applyR r x).getD r = if b = true then q else r := by
  cases hA : applyR r x with
  | none => rw [hA] at h; cases h; rfl
  | some a => rw [hA] at h; cases h; rfl
theorem apply_get {r q : RegS} {b : Bool} (sl : SlcE) (x : RecV) (w : World) (h : regR (applyR r x.s) = (q, b)) (hl : LogAt w w.heap.size sl r.log) (hx : LogAt w w.heap.size x.es x.ents) (hx2 : x.ents.length ≤ 1000) :
    Calls Try.prog 16 #[.agg (rgv r sl).toArray, .agg (rcv x).toArray] w fun e w' => ∃ s : SlcE, e = .returned (.tuple #[.agg (rgv q s).toArray, .bool b]) ∧ LogAt w' w'.heap.size s q.log ∧ Below w.heap.size w w' := by
  refine (apply_any r sl x w hl hx hx2).mono ?_
  rintro e w1 ⟨s, he, hL, hb⟩
  rw [h] at he hL
  exact ⟨s, he, hL.1, hb⟩

set_option maxHeartbeats 4000000 in
theorem behind15_any (l : List RecV) (A : Option Addr) (c : Nat) (w : World) (hl : Recs w w.heap.size A l) (hn : l.length ≤ 9223372036854775807) (hn2 : ∀ x ∈ l, x.ents.length ≤ 100) :
    Calls Try.prog 24 #[.slice A l.length c] w fun e w' => ∃ s : SlcE, e = .returned (.agg (rgv (behindR l) s).toArray) ∧ LogAt w' w'.heap.size s (behindR l).log ∧ Below w.heap.size w w' := by
  have HE := Lib.hid (And.intro hl hn2)
  clear hl hn2
  have hw0 : Below w.heap.size w ((w.alloc (.cells (rgv reg0 (none, 0, 0)).toArray 24)).alloc (.cells (rgv reg0 (none, 0, 0)).toArray 24)) := ((Below.refl _ _).alloc (Nat.le_refl _) _).alloc (by simp) _
  have B0 : Blk ((w.alloc (.cells (rgv reg0 (none, 0, 0)).toArray 24)).alloc (.cells (rgv reg0 (none, 0, 0)).toArray 24)) w.heap.size 24 (rgv reg0 (none, 0, 0)) := (Blk.new w _ _).alloc _
  have B1 : Blk ((w.alloc (.cells (rgv reg0 (none, 0, 0)).toArray 24)).alloc (.cells (rgv reg0 (none, 0, 0)).toArray 24)) (w.heap.size + 1) 24 (rgv reg0 (none, 0, 0)) := Blk.newAt _ _ _ (by simp)
  have HH := Lib.hid (And.intro hw0 (And.intro B0 B1))
  clear hw0 B0 B1
  go_enter Try.func24, Try.ntmps24
  go_wp2_with fail
  go_loopg [4] l.length (fun q i wr => ∃ (j : Nat) (s : SlcE), q = l.length - j ∧ j ≤ l.length ∧ i = .int .i64 j ∧ Below w.heap.size w wr ∧ Blk wr w.heap.size 24 (rgv reg0 (none, 0, 0)) ∧ Blk wr (w.heap.size + 1) 24 (rgv (behindR (l.take j)) s) ∧ LogAt wr wr.heap.size s (behindR (l.take j)).log)
  case atStart => exact ⟨0, (none, 0, 0), rfl, by omega, rfl, HH.out.1, HH.out.2.1, HH.out.2.2, LogAt.nil⟩
  case round =>
    clear HH
    obtain ⟨j, s, hq, hj, rfl, hB, B0, B1, hS⟩ := hrel
    have AA : Aside (gk = l.length - j) := hq
    clear hq
    obtain ⟨wq, rfl⟩ : ∃ z, z = wr := ⟨_, rfl⟩
    by_cases hlt : j < l.length
    · obtain ⟨b1, o1, x, rfl, hx, FA, HX⟩ := HE.out.1.at_ hlt
      have hx2 := HE.out.2 x (List.mem_of_getElem? hx.out)
      obtain ⟨⟨q, b⟩, hqb⟩ : ∃ z, regR (applyR (behindR (l.take j)) x.s) = z := ⟨_, rfl⟩
      have HN := Lib.hid (behind_next hx.out)
      generalize behindR (l.take j) = r at B1 hS hqb HN ⊢
      have HQ := Lib.hid hqb
      clear hqb
      have HS := Lib.hid hS
      clear hS
      have hz := hB.size
      go_wp2_with fail
      refine wp_region_t (.quiet 0 (.quiet 1 (.quiet 2 (.quiet 3 (.quiet 4 (.two 5 9 (.quiet 6 (.quiet 7 (.quiet 8 (.one 9 (.one 10 (.quiet 11 .done)))))) (.one 5 (.quiet 6 (.quiet 7 (.quiet 8 (.one 10 (.quiet 11 .done)))))))))))) (fun w' => Below wq.heap.size wq w') (by kernel_rfl) (by kernel_rfl) (by kernel_rfl) (by kernel_rfl) ((Below.refl _ _).drew) rfl ?_
      intro KP RP TP hKP hTP hTP'
      simp only [Sch.fill, nth]
      apply merge2 (Inv := fun g s w' => Below wq.heap.size wq w' ∧ wq.heap.size ≤ g ∧ Blk w' g 24 (rgv q s) ∧ LogAt w' w'.heap.size s (q).log) (K := KP)
      · intro HK
        have hQ : Below wq.heap.size wq wq.drew := (Below.refl _ _).drew
        generalize wq.drew = wc at hQ ⊢
        go_wp2_with (first
          | (apply SeqT.skip; rfl; simp only [Act.put, List.setIfInBounds_toArray, List.set_cons_zero, List.set_cons_succ])
          | (apply SeqT.pure; rfl; (intro w9 hw9; have hw9 := hTP _ hw9; exact exec_load_blk 24 _ rfl _ rfl _ _ (B1.keep hw9) _ Try.underlying24 rfl rg_info); simp only [Act.put, List.setIfInBounds_toArray, List.set_cons_zero, List.set_cons_succ])
          | (apply SeqT.pure; rfl; (intro w9 hw9; have hw9 := hTP _ hw9; ((obtain ⟨q0, q1, q2, q3, q4, q5, q6, q7⟩ := FA _ (below_trans hB hw9 hz))); go_simp; with_reducible rfl); simp only [Act.put, List.setIfInBounds_toArray, List.set_cons_zero, List.set_cons_succ]))
        all_goals first | apply SeqT.two | apply SeqT.one
        all_goals first
          | (refine EffT.is (some 19) rfl ?_
             apply EffT.go
             · rfl
             intro KE hKE
             go_wp2_with fail
             refine (apply_get s x wc HQ.out (HS.out.keep hQ) (HX.out.keep (below_trans hB hQ hz)) (by omega)).mono ?_
             rintro e wd ⟨sr, rfl, hR0, hb⟩
             have hQ' := below_trans hQ hb hQ.size
             refine hKE _ _ (hTP' _ hQ') ?_
             clear hKE KE hQ
             try replace hZ := hZ.keep hb
             clear hb
             try clear wc
             obtain ⟨wc, rfl⟩ : ∃ z, z = wd := ⟨_, rfl⟩
             have hR := hR0
             clear hR0
             have hQ := hQ'
             clear hQ'
             go_wp2_with (first
               | (apply SeqT.skip; rfl; simp only [Act.put, List.setIfInBounds_toArray, List.set_cons_zero, List.set_cons_succ])
               | (apply SeqT.pure; rfl; (intro w9 hw9; have hw9 := hTP _ hw9; exact exec_load_blk 24 _ rfl _ rfl _ _ (B1.keep hw9) _ Try.underlying24 rfl rg_info); simp only [Act.put, List.setIfInBounds_toArray, List.set_cons_zero, List.set_cons_succ])
               | (apply SeqT.pure; rfl; (intro w9 hw9; have hw9 := hTP _ hw9; ((obtain ⟨q0, q1, q2, q3, q4, q5, q6, q7⟩ := FA _ (below_trans hB hw9 hz))); go_simp; with_reducible rfl); simp only [Act.put, List.setIfInBounds_toArray, List.set_cons_zero, List.set_cons_succ])))
          | (refine EffT.is (some 5) rfl ?_
             apply EffT.go
             · rfl
             intro KE hKE
             go_wp2_with fail
             refine eff_abs hKE (fun W' => Below wc.heap.size wc W' ∧ Blk W' wc.heap.size 24 (rgv reg0 (none, 0, 0))) ⟨(Below.refl _ _).alloc (Nat.le_refl _) _, Blk.new wc 24 (rgv reg0 (none, 0, 0))⟩ (fun W' h => hTP' _ (below_trans hQ h.1 hQ.size)) ?_
             rintro wd ⟨hb, hZ0⟩
             have hQ' := below_trans hQ hb hQ.size
             have hgz := hQ.size
             generalize wc.heap.size = gz at hZ0 hgz ⊢
             clear hKE KE hQ
             try replace hR := hR.keep hb
             clear hb
             try clear wc
             obtain ⟨wc, rfl⟩ : ∃ z, z = wd := ⟨_, rfl⟩
             have hZ := hZ0
             clear hZ0
             have hQ := hQ'
             clear hQ'
             go_wp2_with (first
               | (apply SeqT.skip; rfl; simp only [Act.put, List.setIfInBounds_toArray, List.set_cons_zero, List.set_cons_succ])
               | (apply SeqT.pure; rfl; (intro w9 hw9; have hw9 := hTP _ hw9; exact exec_load_blk 24 _ rfl _ rfl _ _ (B1.keep hw9) _ Try.underlying24 rfl rg_info); simp only [Act.put, List.setIfInBounds_toArray, List.set_cons_zero, List.set_cons_succ])
               | (apply SeqT.pure; rfl; (intro w9 hw9; have hw9 := hTP _ hw9; ((obtain ⟨q0, q1, q2, q3, q4, q5, q6, q7⟩ := FA _ (below_trans hB hw9 hz))); go_simp; with_reducible rfl); simp only [Act.put, List.setIfInBounds_toArray, List.set_cons_zero, List.set_cons_succ])))
        all_goals first | apply SeqT.two | apply SeqT.one
        all_goals first
          | (refine EffT.is (some 19) rfl ?_
             apply EffT.go
             · rfl
             intro KE hKE
             go_wp2_with fail
             refine (apply_get s x wc HQ.out (HS.out.keep hQ) (HX.out.keep (below_trans hB hQ hz)) (by omega)).mono ?_
             rintro e wd ⟨sr, rfl, hR0, hb⟩
             have hQ' := below_trans hQ hb hQ.size
             refine hKE _ _ (hTP' _ hQ') ?_
             clear hKE KE hQ
             try replace hZ := hZ.keep hb
             clear hb
             try clear wc
             obtain ⟨wc, rfl⟩ : ∃ z, z = wd := ⟨_, rfl⟩
             have hR := hR0
             clear hR0
             have hQ := hQ'
             clear hQ'
             go_wp2_with (first
               | (apply SeqT.skip; rfl; simp only [Act.put, List.setIfInBounds_toArray, List.set_cons_zero, List.set_cons_succ])
               | (apply SeqT.pure; rfl; (intro w9 hw9; have hw9 := hTP _ hw9; exact exec_load_blk 24 _ rfl _ rfl _ _ (B1.keep hw9) _ Try.underlying24 rfl rg_info); simp only [Act.put, List.setIfInBounds_toArray, List.set_cons_zero, List.set_cons_succ])
               | (apply SeqT.pure; rfl; (intro w9 hw9; have hw9 := hTP _ hw9; ((obtain ⟨q0, q1, q2, q3, q4, q5, q6, q7⟩ := FA _ (below_trans hB hw9 hz))); go_simp; with_reducible rfl); simp only [Act.put, List.setIfInBounds_toArray, List.set_cons_zero, List.set_cons_succ])))
          | (refine EffT.is (some 5) rfl ?_
             apply EffT.go
             · rfl
             intro KE hKE
             go_wp2_with fail
             refine eff_abs hKE (fun W' => Below wc.heap.size wc W' ∧ Blk W' wc.heap.size 24 (rgv reg0 (none, 0, 0))) ⟨(Below.refl _ _).alloc (Nat.le_refl _) _, Blk.new wc 24 (rgv reg0 (none, 0, 0))⟩ (fun W' h => hTP' _ (below_trans hQ h.1 hQ.size)) ?_
             rintro wd ⟨hb, hZ0⟩
             have hQ' := below_trans hQ hb hQ.size
             have hgz := hQ.size
             generalize wc.heap.size = gz at hZ0 hgz ⊢
             clear hKE KE hQ
             try replace hR := hR.keep hb
             clear hb
             try clear wc
             obtain ⟨wc, rfl⟩ : ∃ z, z = wd := ⟨_, rfl⟩
             have hZ := hZ0
             clear hZ0
             have hQ := hQ'
             clear hQ'
             go_wp2_with (first
               | (apply SeqT.skip; rfl; simp only [Act.put, List.setIfInBounds_toArray, List.set_cons_zero, List.set_cons_succ])
               | (apply SeqT.pure; rfl; (intro w9 hw9; have hw9 := hTP _ hw9; exact exec_load_blk 24 _ rfl _ rfl _ _ (B1.keep hw9) _ Try.underlying24 rfl rg_info); simp only [Act.put, List.setIfInBounds_toArray, List.set_cons_zero, List.set_cons_succ])
               | (apply SeqT.pure; rfl; (intro w9 hw9; have hw9 := hTP _ hw9; ((obtain ⟨q0, q1, q2, q3, q4, q5, q6, q7⟩ := FA _ (below_trans hB hw9 hz))); go_simp; with_reducible rfl); simp only [Act.put, List.setIfInBounds_toArray, List.set_cons_zero, List.set_cons_succ])))
        all_goals first | apply SeqT.two | apply SeqT.one
        all_goals
          refine EffT.is none rfl ?_
          apply EffT.go
          · rfl
          intro KE hKE
          refine wp_store_own 24 _ _ rfl _ (rgv q sr) rfl rfl _ _ hZ rg_info rfl (rgv_one _ _) ?_
          intro wd B5 g5
          have hQ' := hQ.trans (below_grown g5 hgz hQ.size)
          have hR5 := hR.stored hZ (by simp [rgv]) g5
          refine hKE _ _ (hTP' _ hQ') ?_
          clear hKE KE
          go_wp2_with (first
            | (apply SeqT.skip; rfl; simp only [Act.put, List.setIfInBounds_toArray, List.set_cons_zero, List.set_cons_succ])
            | (apply SeqT.pure; rfl; (intro w9 hw9; have hw9 := hTP _ hw9; exact exec_load_blk 24 _ rfl _ rfl _ _ (B1.keep hw9) _ Try.underlying24 rfl rg_info); simp only [Act.put, List.setIfInBounds_toArray, List.set_cons_zero, List.set_cons_succ])
            | (apply SeqT.pure; rfl; (intro w9 hw9; have hw9 := hTP _ hw9; ((obtain ⟨q0, q1, q2, q3, q4, q5, q6, q7⟩ := FA _ (below_trans hB hw9 hz))); go_simp; with_reducible rfl); simp only [Act.put, List.setIfInBounds_toArray, List.set_cons_zero, List.set_cons_succ]))
          apply SeqT.done
          exact HK gz sr wd ⟨hQ', hgz, B5, hR5⟩
      intro g s2 w3 ⟨hb3, hge, B3, R3⟩
      refine hKP _ _ (hTP' _ hb3) ?_
      clear hKP hTP hTP'
      have hB3 := below_trans hB hb3 hz
      have C0 := B0.keep hb3
      have C1 := B1.keep hb3
      have HS3 := Lib.hid (HS.out.keep hb3)
      have HE2 := Lib.hid (regR_cases HQ.out)
      have R3' := Lib.hid R3
      have l1 := C1.lt
      have hz3 := hB3.size
      clear HQ R3 B0 B1 HS hB hb3
      try clear wq
      cases b with
      | true =>
        go_wp2_with ((with_reducible refine at_list ?_); first | refine wpList_load_blk rfl 24 _ rfl _ rfl _ _ _ (B3) Try.underlying24 rfl rg_info ?_ | (refine wpList_store_own rfl 24 _ _ rfl _ (rgv q s2) rfl rfl _ _ (C1) rg_info rfl (rgv_one _ _) ?_; intro w4 D1 g4))
        have hB4 := hB3.trans (below_grown g4 (by omega) hz3)
        go_roundg (l.length - (j + 1))
        case measure => have hkk := AA.out; omega
        case rel =>
          refine ⟨j + 1, s2, rfl, by omega, by go_num, hB4, C0.grown g4 (fun e => by have := Option.some.inj e; omega), ?_, ?_⟩
          · rw [HN.out, HE2.out]; exact D1
          · rw [HN.out, HE2.out]; exact R3'.out.stored C1 (by simp [rgv]) g4
      | false =>
        go_wp2_with fail
        go_roundg (l.length - (j + 1))
        case measure => have hkk := AA.out; omega
        case rel =>
          refine ⟨j + 1, s, rfl, by omega, by go_num, hB3, C0, ?_, ?_⟩
          · rw [HN.out, HE2.out]; exact C1
          · rw [HN.out, HE2.out]; exact HS3.out
    · obtain rfl : j = l.length := by omega
      rw [List.take_length] at B1 hS
      have l1 := B1.lt
      have hz := hB.size
      go_wp2_with ((with_reducible refine at_list ?_); first | refine wpList_load_blk rfl 24 _ rfl _ rfl _ _ _ (B1) Try.underlying24 rfl rg_info ?_ | (refine wpList_store_own rfl 24 _ _ rfl _ (rgv (behindR l) s) rfl rfl _ _ (B0) rg_info rfl (rgv_one _ _) ?_; intro w4 D0 g4))
      have hB4 := hB.trans (below_grown g4 (Nat.le_refl _) hz)
      apply ret_of
      · exact results_blk rfl _ _ _ _ _ _ rfl D0 Try.underlying24 rfl rg_info
      · exact ⟨rfl, s, rfl, hS.stored B0 (by simp [rgv]) g4, hB4⟩
theorem regR_some {r q : RegS} {x : RecS} (h : regR (applyR r x) = (q, true)) : applyR r x = some q := by
  cases hA : applyR r x with
  | none => rw [hA] at h; cases h
  | some a => rw [hA] at h; cases h; rfl

theorem same_yes {n1 n2 : Nat} (l m : List Ent) (h1 : n1 = l.length) (h2 : n2 = m.length) (h : l = m) (A B : Option Addr) (c d : Nat) (w : World) (ha : Ents w w.heap.size A l) (hb : Ents w w.heap.size B m) (hl : l.length ≤ 9223372036854775807) (hm : m.length ≤ 9223372036854775807) :
    Calls Try.prog 23 #[.slice A n1 c, .slice B n2 d] w fun e w' => e = .returned (.bool true) ∧ Below w.heap.size w w' := by
  subst h1; subst h2
  have := same_any l m A B c d w ha hb hl hm
  rw [decide_eq_true h] at this
  exact this
end Go.Proofs.Ytbicefilfhcgoaa
