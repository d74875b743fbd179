/-
  The walk over folds.Of.
-/
import Derived.Test.YtifeokabecgimaaOuts
import Derived.Test.YtifeokabecgimaaFoldKey
import Derived.Test.YtifeokabecgimaaFoldDec
import Derived.Test.YtifeokabecgimaaApplyAny
import Derived.Deep.LoopGhost
set_option linter.unusedSimpArgs false
set_option linter.unusedVariables false
set_option maxRecDepth 100000
namespace Go.Proofs.Ytifeokabecgimaa
open Go Go.RowKit Go.Sq Go.Wd Go.Arch Go.Km

theorem fzero (w : World) : (zeroValue 3).run Try.prog w = .ok (.int .i64 0) w := by kernel_rfl

def firstG (l : List Ent) (j : Nat) : Int → Option Value := fun a => (firstIn l j a).map fun k => .int .i64 (k : Int)

/-- What a round of Of holds on to. -/
def FI (w0 w : World) (v : Value) (s : St) (outs : List OutS) (n : Nat) (G : Int → Option Value) : Prop :=
  Below w0.heap.size w0 w ∧ Blk w w0.heap.size 25 (stv s) ∧ KMap Try.prog fdress w (w0.heap.size + 1) n G ∧ Outs w (w0.heap.size + 2) v outs ∧ w0.heap.size + 2 ≤ w.heap.size

theorem FI.app {w0 W w' : World} {v v' : Value} {s : St} {outs outs' : List OutS} {n : Nat} {G : Int → Option Value} (hB : Below w0.heap.size w0 W) (hS : Blk W w0.heap.size 25 (stv s))
    (hM : KMap Try.prog fdress W (w0.heap.size + 1) n G) (hO : Outs W (w0.heap.size + 2) v outs) (hz : w0.heap.size + 2 ≤ W.heap.size) (hg : W.grownBy w' v.ownBlock) (hO' : Outs w' (w0.heap.size + 2) v' outs') : FI w0 w' v' s outs' n G := by
  have hlt : ∀ g, v.ownBlock = some g → w0.heap.size + 2 ≤ g := by
    obtain ⟨ps, _, h2, _⟩ := hO
    exact fun g hv => (h2.lt g hv).1
  have hne : ∀ b, b < w0.heap.size + 2 → some b ≠ v.ownBlock := fun b hb e => by have := hlt b e.symm; omega
  have hsz : W.heap.size ≤ w'.heap.size := hg.size
  refine ⟨⟨hg.os.trans hB.os, hg.tape.trans hB.tape, hg.output.trans hB.output, by omega, fun k hk => (hg.block k (by omega) (hne k (by omega))).trans (hB.block k hk)⟩, ?_, ?_, hO', by omega⟩
  · exact hS.grown hg (hne _ (by omega))
  · exact hM.of_block (hg.block _ hM.lt (hne _ (by omega)))

theorem firstG_dup {l : List Ent} {j k : Nat} {e : Ent} (he : l[j]? = some e) (hf : firstIn l j e.2.1 = some k) : firstG l (j + 1) = firstG l j := by
  funext a
  unfold firstG
  rw [first_succ he, if_neg]
  rintro ⟨h1, rfl⟩
  rw [hf] at h1; cases h1
theorem firstG_new {l : List Ent} {j : Nat} {e : Ent} (he : l[j]? = some e) (hf : firstIn l j e.2.1 = none) : firstG l (j + 1) = upd (firstG l j) e.2.1 (.int .i64 (j : Int)) := by
  funext a
  unfold firstG upd
  rw [first_succ he]
  by_cases h : a = e.2.1
  · subst h
    simp [hf]
  · simp [h]

set_option maxHeartbeats 4000000 in
theorem of_any (l : List Ent) (A : Option Addr) (c : Nat) (w : World) (ha : Ents w w.heap.size A l) (hl : l.length ≤ 2000) (hwf : ∀ e ∈ l, (Lit.int .i64 e.2.1).wf = true) :
    Calls Try.prog 15 #[.slice A l.length c] w fun e w' => ∃ v, e = .returned (.tuple #[.agg (stv (foldS l).1).toArray, v]) ∧ Outs w' (w.heap.size + 2) v (foldS l).2 ∧ Below w.heap.size w w' := by
  have hw := Below.refl w.heap.size w
  have H := Lib.hid ha
  have HW := Lib.hid hwf
  clear ha hwf
  have hmk := run_makeMap (P := Try.prog) 77 (w.alloc (.cells #[.int .i64 0, .bool false, .int .i64 0, .int .i64 0] 25))
  have hm0 := KMap.made Try.prog fdress (w.alloc (.cells #[.int .i64 0, .bool false, .int .i64 0, .int .i64 0] 25))
  rw [show (w.alloc (.cells #[.int .i64 0, .bool false, .int .i64 0, .int .i64 0] 25)).heap.size = w.heap.size + 1 from by simp] at hmk hm0
  have hI0 : FI w ((w.alloc (.cells #[.int .i64 0, .bool false, .int .i64 0, .int .i64 0] 25)).alloc (.map #[] 0)) (.slice none 0 0) ⟨0, false, 0, 0⟩ [] 0 (fun _ => none) :=
    ⟨by (repeat (first | with_reducible apply Below.drew | with_reducible refine Below.setCell ?_ (by first | exact Nat.le_refl _ | (simp; done) | (simp; omega) | omega) _ | with_reducible refine Below.alloc ?_ (by first | exact Nat.le_refl _ | (simp; done) | (simp; omega) | omega) _ | with_reducible exact Below.refl _ _ | with_reducible assumption)), (Blk.new w _ (stv ⟨0, false, 0, 0⟩)).alloc _, hm0, Outs.nil _ _, by simp⟩
  clear hm0
  go_enter Try.func15, Try.ntmps15
  go_wp2_with fail
  clear hmk
  go_loopg [3, 16] l.length (fun q v i wr => ∃ j n : Nat, q = l.length - j ∧ j ≤ l.length ∧ n ≤ j ∧ i = .int .i64 j ∧ FI w wr v (foldTo l j).1 (foldTo l j).2 n (firstG l j))
  case atStart => exact ⟨0, 0, rfl, by omega, by omega, rfl, hI0⟩
  case round =>
    clear hI0
    obtain ⟨j, n, hk, hj, hn, rfl, hI⟩ := hrel
    have AA : Aside (gk = l.length - j ∧ n ≤ j) := ⟨hk, hn⟩
    clear hk
    by_cases hlt : j < l.length
    · obtain ⟨b1, o1, x, rfl, hx, FA⟩ := H.out.at_ hlt
      obtain ⟨hB, hS, hM, hO, hz⟩ := hI
      obtain ⟨c0, c1, c2, c3, c4, c5⟩ := FA _ hB
      have hxw : (Lit.int .i64 x.2.1).wf = true := HW.out x (List.mem_of_getElem? hx.out)
      clear FA
      have hlen := fold_len l j (by omega)
      have hmp := Try.underlying77
      have hM2 := (hM.alloc (.cells #[.int .i64 x.1, .int .i64 x.2.1, .int .i64 x.2.2.1, .int .i64 x.2.2.2.1, .int .i64 x.2.2.2.2.1, .int .i64 x.2.2.2.2.2] 45)).alloc (.cells #[.int .i64 x.2.1] 79)
      have hlook := hM2.look_ok hmp (fzero _) hxw
      have hO2 := (hO.pure ((Below.refl _ _).alloc (Nat.le_refl _) (.cells #[.int .i64 x.1, .int .i64 x.2.1, .int .i64 x.2.2.1, .int .i64 x.2.2.2.1, .int .i64 x.2.2.2.2.1, .int .i64 x.2.2.2.2.2] 45))).pure ((Below.refl _ _).alloc (Nat.le_refl _) (.cells #[.int .i64 x.2.1] 79))
      have hS2 := (hS.alloc (.cells #[.int .i64 x.1, .int .i64 x.2.1, .int .i64 x.2.2.1, .int .i64 x.2.2.2.1, .int .i64 x.2.2.2.2.1, .int .i64 x.2.2.2.2.2] 45)).alloc (.cells #[.int .i64 x.2.1] 79)
      have hB2 := (hB.alloc hB.size (.cells #[.int .i64 x.1, .int .i64 x.2.1, .int .i64 x.2.2.1, .int .i64 x.2.2.2.1, .int .i64 x.2.2.2.2.1, .int .i64 x.2.2.2.2.2] 45)).alloc (by simp; have := hB.size; omega) (.cells #[.int .i64 x.2.1] 79)
      clear hM hS hO hmp
      simp only [firstG, show fdress.val x.2.1 = .agg #[.int .i64 x.2.1] from rfl] at hlook
      cases hf : firstIn l j x.2.1 with
      | some k =>
        have hkj := first_lt l j _ k hf
        simp only [hf, Option.map_some, Option.getD_some, Option.isSome_some] at hlook
        have HS := Lib.hid (And.intro (fold_dup hx.out hf) (And.intro hf hlen))
        have hlt2 : k < (foldTo l j).2.length := by omega
        clear hf hlen
        generalize hW : ((wr.alloc (.cells #[.int .i64 x.1, .int .i64 x.2.1, .int .i64 x.2.2.1, .int .i64 x.2.2.2.1, .int .i64 x.2.2.2.2.1, .int .i64 x.2.2.2.2.2] 45)).alloc (.cells #[.int .i64 x.2.1] 79)) = W at hO2 hS2 hB2 hM2
        obtain ⟨g, cap, o, sl, hv, ho, hgB, hglt, hcap1, hcap2, hev, d0, d1, d2⟩ := hO2.read hlt2
        rw [HS.out.2.2] at hcap1 hv
        subst hv
        obtain ⟨v', w', hrun, hO3, hg3, hold⟩ := Outs.snoc (W := W.drew) hO2 (o.1, o.2.1, []) (none, 0, 0) (.inl ⟨rfl, rfl⟩) (by rw [HS.out.2.2]; omega) (by have := hB2.size; subst hW; simp; omega) (H := wr.heap.size + 1 + 1) (by subst hW; simp) 26
        have e0 := hold g cap (k * 3) _ (by rw [HS.out.2.2]) (by omega) d0
        have e1 := hold g cap (k * 3 + 1) _ (by rw [HS.out.2.2]) (by omega) d1
        clear hold
        subst hW
        have hc2 : cap ≤ 9223372036854775807 := by simp only [maxLen] at hcap2; omega
        clear hcap2
        have hglt' : g < wr.heap.size + 1 + 1 := by simpa using hglt
        go_wp2_with fail
        refine wp_region_p ([(0, true), (1, true), (2, true), (3, true), (4, true), (5, true), (6, true), (7, true), (8, true), (9, true), (10, true), (11, true), (12, false), (13, false), (14, true)]) (fun w' => w'.cell? ⟨g, k * 3, none⟩ = some (.int .i64 o.1) ∧ w'.cell? ⟨g, k * 3 + 1, none⟩ = some (.int .i64 o.2.1)) (by kernel_rfl) rfl (by kernel_rfl) (by kernel_rfl) (⟨d0, d1⟩) rfl ?_
        intro KP RP TP hKP hTP hTP'
        simp only [pick, nth]
        go_wp2_with (first
          | (apply SeqP.skip; rfl; simp only [Act.put, List.setIfInBounds_toArray, List.set_cons_zero, List.set_cons_succ])
          | (apply SeqP.call; rfl; rfl; (intro w2 hw; have hw := hTP _ hw; (obtain ⟨q0, q1⟩ := hw); go_simp; exact ⟨rfl, rfl⟩); (intro w2 hw; have hw := hTP _ hw; (obtain ⟨q0, q1⟩ := hw); (first | fail)); simp only [Act.put, List.setIfInBounds_toArray, List.set_cons_zero, List.set_cons_succ])
          | (apply SeqP.pure; rfl; (intro w2 hw; have hw := hTP _ hw; (obtain ⟨q0, q1⟩ := hw); go_simp; with_reducible rfl); simp only [Act.put, List.setIfInBounds_toArray, List.set_cons_zero, List.set_cons_succ])
          | (apply SeqP.split; rfl; rfl; all_goals (intro hc; simp only [hc]; try simp only [beq_iff_eq, decide_eq_true_eq, beq_eq_false_iff_ne, decide_eq_false_iff_not, bne_iff_ne, ne_eq, Bool.not_eq_true', Bool.not_eq_false', Int.not_le, Int.not_lt, bne_eq_false_iff_eq, Bool.or_eq_true, Bool.and_eq_true, Bool.or_eq_false_iff] at hc)))
        apply SeqP.eff
        · rfl
        intro KE hKE
        go_wp2_with fail
        refine hKE _ _ (hTP' _ (by simp only [World.drew]; exact ⟨(World.cell?_alloc_lt _ _ _ (by simpa using hglt)).trans d0, (World.cell?_alloc_lt _ _ _ (by simpa using hglt)).trans d1⟩)) ?_
        clear hKE KE
        apply SeqP.eff
        · rfl
        intro KE hKE
        refine oper_app (by rfl) (by rfl) (by rfl) hrun ?_
        refine hKE _ _ (hTP' _ ⟨e0, e1⟩) ?_
        clear hKE KE
        go_wp2_with (first
          | (apply SeqP.skip; rfl; simp only [Act.put, List.setIfInBounds_toArray, List.set_cons_zero, List.set_cons_succ])
          | (apply SeqP.call; rfl; rfl; (intro w2 hw; have hw := hTP _ hw; (obtain ⟨q0, q1⟩ := hw); go_simp; exact ⟨rfl, rfl⟩); (intro w2 hw; have hw := hTP _ hw; (obtain ⟨q0, q1⟩ := hw); (first | fail)); simp only [Act.put, List.setIfInBounds_toArray, List.set_cons_zero, List.set_cons_succ])
          | (apply SeqP.pure; rfl; (intro w2 hw; have hw := hTP _ hw; (obtain ⟨q0, q1⟩ := hw); go_simp; with_reducible rfl); simp only [Act.put, List.setIfInBounds_toArray, List.set_cons_zero, List.set_cons_succ])
          | (apply SeqP.split; rfl; rfl; all_goals (intro hc; simp only [hc]; try simp only [beq_iff_eq, decide_eq_true_eq, beq_eq_false_iff_ne, decide_eq_false_iff_not, bne_iff_ne, ne_eq, Bool.not_eq_true', Bool.not_eq_false', Int.not_le, Int.not_lt, bne_eq_false_iff_eq, Bool.or_eq_true, Bool.and_eq_true, Bool.or_eq_false_iff] at hc)))
        apply SeqP.nil
        refine hKP _ _ (hTP' _ (⟨e0, e1⟩)) ?_
        clear hKP hTP hTP'
        clear hrun e0 e1 d0 d1 d2 hlook
        go_wp2_with fail
        go_roundg (l.length - (j + 1))
        case measure => have hkk := AA.out.1; omega
        case rel =>
          refine ⟨j + 1, n, rfl, by omega, by have := AA.out.2; omega, by go_num, ?_⟩
          rw [HS.out.1, firstG_dup hx.out HS.out.2.1]
          refine FI.app hB2.drew hS2.drew hM2.drew hO2 (by simp; omega) hg3 ?_
          have hd : dupOf (foldTo l j).2 k = (o.1, o.2.1, []) := by unfold dupOf; rw [ho]
          rw [hd]
          exact hO3
      | none =>
        simp only [hf, Option.map_none, Option.getD_none, Option.isSome_none] at hlook
        have HS := Lib.hid (And.intro (fold_new hx.out hf) (And.intro hf hlen))
        clear hf hlen
        obtain ⟨w1, hst, hM3, htu⟩ := hM2.store Try.underlying77 (by simp only [maxLen]; omega) hxw (.int .i64 (j : Int))
        have hg2 := htu.grown
        simp only [show fdress.val x.2.1 = .agg #[.int .i64 x.2.1] from rfl] at hst
        have hS3 := hS2.grown hg2 (by simp)
        have hE3 : Blk w1 wr.heap.size 45 [.int .i64 x.1, .int .i64 x.2.1, .int .i64 x.2.2.1, .int .i64 x.2.2.2.1, .int .i64 x.2.2.2.2.1, .int .i64 x.2.2.2.2.2] := ((Blk.new wr _ _).alloc _).grown hg2 (by simp; omega)
        have hO3 := hO2.keep hg2 (by intro g e; cases e; omega)
        have hB3 := below_only hB2 hg2 (by omega) (by simp; have := hB.size; omega)
        have hz3 := hg2.size
        simp at hz3
        clear hg2 htu hO2 hS2 hM2 hB2
        have s0 := hS3.cell 0
        have s1 := hS3.cell 1
        have s2 := hS3.cell 2
        have s3 := hS3.cell 3
        have e1 := hE3.cell 1
        have e2 := hE3.cell 2
        have e3 := hE3.cell 3
        have e4 := hE3.cell 4
        have e5 := hE3.cell 5
        simp [stv] at s0 s1 s2 s3 e1 e2 e3 e4 e5
        go_wp2_with fail
        refine (decide_out (foldTo l j).1 (ordOf x) _).mono ?_
        rintro e w2 ⟨sl, rfl, hev, hb⟩
        have HD := Lib.hid (And.intro (fun k a => @decS_ev (foldTo l j).1 (ordOf x) k a) (@decS_nil (foldTo l j).1 (ordOf x)))
        generalize decS (foldTo l j).1 (ordOf x) = d at HS HD hev ⊢
        obtain ⟨ds, dc, dv, evs⟩ := d
        dsimp only at hev ⊢
        have hS4 := hS3.keep hb
        have hO4 := hO3.pure hb
        have hM4 := hM3.below hb hM3.lt
        have hB4 := below_trans hB3 hb (by omega)
        have hz4 := hb.size
        have hev4 : EvAt w2 (w.heap.size + 2) (Value.ownBlock _) sl evs := hev.base (by omega) hO3.own_lt
        clear hS3 hE3 hO3 hM3 hB3 hst hlook s0 s1 s2 s3 e1 e2 e3 e4 e5 hev hb c0 c1 c2 c3 c4 c5
        have hj2 : (foldTo l j).2.length < 1000000 := by rw [HS.out.2.2]; omega
        by_cases hevs : evs = []
        · obtain rfl : sl = (none, 0, 0) := by
            rcases hev4 with h | ⟨_, _, _, _, h, _⟩
            · exact h.2
            · rw [hevs] at h; cases h
          subst hevs
          obtain ⟨v', w', hrun, hO5, hg5, _⟩ := Outs.snoc (W := w2.alloc (.cells #[.int .i64 dc, .int .i64 dv, .slice none 0 0] 33)) (hO4.pure ((Below.refl _ _).alloc (Nat.le_refl _) _)) (dc, dv, []) (none, 0, 0) (.inl ⟨rfl, rfl⟩) hj2 (by simp; omega) (H := w2.heap.size + 1) (by simp) 26
          have HX := Lib.hid (And.intro hO5 hg5)
          clear hO5 hg5
          go_wp2_with fail
          refine wp_loop_rounds 1 ?_
          rw [rounds_succ]
          go_wp2_with (at_builtin; refine wpList_app rfl (by rfl) (by rfl) (by rfl) hrun ?_)
          go_roundg (l.length - (j + 1))
          case measure => have hkk := AA.out.1; omega
          case rel =>
            refine ⟨j + 1, n + 1, rfl, by omega, by have := AA.out.2; omega, by go_num, ?_⟩
            rw [HS.out.1, firstG_new hx.out HS.out.2.1]
            have hds : ds = (foldTo l j).1 := HD.out.2 (by trivial)
            dsimp only
            rw [hds]
            exact FI.app (hB4.alloc hB4.size _) (hS4.alloc _) (hM4.alloc _) (hO4.pure ((Below.refl _ _).alloc (Nat.le_refl _) _)) (by simp; omega) HX.out.2 HX.out.1
        · have hev5 := hev4
          rcases hev5 with h | ⟨g, k, a, rfl, rfl, g1, g2, g3, g4, g5, g6, g7⟩
          · exact absurd h.1 hevs
          clear hevs
          have s0 := hS4.cell 0
          have s1 := hS4.cell 1
          have s2 := hS4.cell 2
          have s3 := hS4.cell 3
          simp [stv] at s0 s1 s2 s3
          have lt0 : w.heap.size < w2.heap.size := by omega
          have ne0 : ¬ w.heap.size = w2.heap.size := by omega
          go_wp2_with fail
          refine wp_loop_rounds 2 ?_
          rw [rounds_succ]
          go_wp2_with fail
          refine (apply_any _ _ _ _ _ _ _).mono ?_
          rintro e w3 ⟨rfl, hb⟩
          have hds : ds = applyS (foldTo l j).1 ⟨k, a⟩ := HD.out.1 k a (by trivial)
          generalize hap : applyS ⟨(foldTo l j).1.tag, (foldTo l j).1.closed, (foldTo l j).1.sum, (foldTo l j).1.ver⟩ ⟨k, a⟩ = p
          obtain rfl : p = ds := by rw [← hap]; exact hds.symm
          clear hap hds s0 s1 s2 s3
          have hz5 := hb.size
          simp at hz5
          have hB5 := below_trans ((hB4.alloc hB4.size (.cells #[.int .i64 dc, .int .i64 dv, .slice (some ⟨g, 0, none⟩) 1 1] 33)).alloc (by simp; omega) (.cells #[.int .i64 k, .int .i64 a] 35)) hb (by simp; omega)
          have hS5 := ((hS4.alloc (.cells #[.int .i64 dc, .int .i64 dv, .slice (some ⟨g, 0, none⟩) 1 1] 33)).alloc (.cells #[.int .i64 k, .int .i64 a] 35)).keep hb
          have hM5 := ((hM4.alloc (.cells #[.int .i64 dc, .int .i64 dv, .slice (some ⟨g, 0, none⟩) 1 1] 33)).alloc (.cells #[.int .i64 k, .int .i64 a] 35)).below hb (by simp; have := hM4.lt; omega)
          have hO5 := ((hO4.pure ((Below.refl _ _).alloc (Nat.le_refl _) (.cells #[.int .i64 dc, .int .i64 dv, .slice (some ⟨g, 0, none⟩) 1 1] 33))).pure ((Below.refl _ _).alloc (Nat.le_refl _) (.cells #[.int .i64 k, .int .i64 a] 35))).pure hb
          have hX5 : Blk w3 w2.heap.size 33 [.int .i64 dc, .int .i64 dv, .slice (some ⟨g, 0, none⟩) 1 1] := ((Blk.new w2 _ _).alloc (.cells #[.int .i64 k, .int .i64 a] 35)).keep hb
          have hev6 := ((hev4.keep (World.grownBy_alloc w2 (.cells #[.int .i64 dc, .int .i64 dv, .slice (some ⟨g, 0, none⟩) 1 1] 33) none) (by simp)).keep (World.grownBy_alloc _ (.cells #[.int .i64 k, .int .i64 a] 35) none) (by simp)).keep (only_of_below hb none) (by simp)
          clear hB4 hS4 hM4 hO4 hev4 hb g4 g5 g6 g7
          have hg6 : w3.grownBy ((((w3.setCell ⟨w.heap.size, 0, none⟩ (.int .i64 p.tag)).setCell ⟨w.heap.size, 1, none⟩ (.bool p.closed)).setCell ⟨w.heap.size, 2, none⟩ (.int .i64 p.sum)).setCell ⟨w.heap.size, 3, none⟩ (.int .i64 p.ver)) (some w.heap.size) := by
            (repeat (first | with_reducible apply only_drew | with_reducible refine only_setCell ?_ (by first | exact Or.inl rfl | (right; simp; done) | (right; simp; omega) | (right; omega)) _ | with_reducible refine only_alloc ?_ _ | with_reducible exact World.grownBy.refl _ _ | with_reducible assumption))
          have hS6 : Blk ((((w3.setCell ⟨w.heap.size, 0, none⟩ (.int .i64 p.tag)).setCell ⟨w.heap.size, 1, none⟩ (.bool p.closed)).setCell ⟨w.heap.size, 2, none⟩ (.int .i64 p.sum)).setCell ⟨w.heap.size, 3, none⟩ (.int .i64 p.ver)) w.heap.size 25 (stv p) := ((((hS5.set 0 (.int .i64 p.tag)).set 1 (.bool p.closed)).set 2 (.int .i64 p.sum)).set 3 (.int .i64 p.ver)).of_eq rfl
          have hM6 := hM5.of_block (hg6.block _ hM5.lt (by simp))
          have hO6 := hO5.keep hg6 (by intro g e; cases e; omega)
          have hev7 := hev6.keep hg6 (fun g e => .inl (by cases e; omega))
          have hB6 := below_only hB5 hg6 (Nat.le_refl _) (by omega)
          have q0 := hX5.cell 0
          have q1 := hX5.cell 1
          have q2 := hX5.cell 2
          have s0 := hS5.cell 0
          have s1 := hS5.cell 1
          have s2 := hS5.cell 2
          have s3 := hS5.cell 3
          have f0 := hS5.frozen 0
          have f1 := hS5.frozen 1
          have f2 := hS5.frozen 2
          have f3 := hS5.frozen 3
          simp [stv] at q0 q1 q2 s0 s1 s2 s3
          obtain ⟨v', w', hrun, hO7, hg7, _⟩ := Outs.snoc hO6 (dc, dv, [(k, a)]) (some ⟨g, 0, none⟩, 1, 1) hev7 hj2 (by simp [World.setCell]; omega) (H := w3.heap.size) (by simp [World.setCell]) 26
          have HX := Lib.hid (And.intro hO7 hg7)
          clear hO7 hg7 hev7 hev6 hX5 hB5 hS5 hM5 hO5 hg6
          have n02 : ¬ w2.heap.size = w.heap.size := by omega
          have HZ := Lib.hid (And.intro hB6 (And.intro hS6 (And.intro hM6 (And.intro hO6 hz5))))
          clear hB6 hS6 hM6 hO6
          go_wp2_with fail
          rw [rounds_succ]
          go_wp2_with (at_builtin; refine wpList_app rfl (by rfl) (by rfl) (by rfl) hrun ?_)
          go_roundg (l.length - (j + 1))
          case measure => have hkk := AA.out.1; omega
          case rel =>
            refine ⟨j + 1, n + 1, rfl, by omega, by have := AA.out.2; omega, by go_num, ?_⟩
            rw [HS.out.1, firstG_new hx.out HS.out.2.1]
            exact FI.app HZ.out.1 HZ.out.2.1 HZ.out.2.2.1 HZ.out.2.2.2.1 (by have := HZ.out.2.2.2.2; simp [World.setCell]; omega) HX.out.2 HX.out.1
    · obtain rfl : j = l.length := by omega
      obtain ⟨hB, hS, hM, hO, hz⟩ := hI
      have s0 := hS.cell 0
      have s1 := hS.cell 1
      have s2 := hS.cell 2
      have s3 := hS.cell 3
      have f0 := hS.frozen 0
      have f1 := hS.frozen 1
      have f2 := hS.frozen 2
      have f3 := hS.frozen 3
      simp [stv] at s0 s1 s2 s3
      go_wp2_with fail
      apply ret_of
      · simp only [results, Try.results15]
        go_simp
        with_reducible rfl
      refine ⟨rfl, _, rfl, ?_, ?_⟩
      · refine hO.keep (row := some w.heap.size) ?_ (by intro g e; cases e; omega)
        (repeat (first | with_reducible apply only_drew | with_reducible refine only_setCell ?_ (by first | exact Or.inl rfl | (right; simp; done) | (right; simp; omega) | (right; omega)) _ | with_reducible refine only_alloc ?_ _ | with_reducible exact World.grownBy.refl _ _ | with_reducible assumption))
      · (repeat (first | with_reducible apply Below.drew | with_reducible refine Below.setCell ?_ (by first | exact Nat.le_refl _ | (simp; done) | (simp; omega) | omega) _ | with_reducible refine Below.alloc ?_ (by first | exact Nat.le_refl _ | (simp; done) | (simp; omega) | omega) _ | with_reducible exact Below.refl _ _ | with_reducible assumption))
end Go.Proofs.Ytifeokabecgimaa
