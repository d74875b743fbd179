/-
  The walk over the statement RegisterPieces.
-/
import Derived.Test.YtbicefilfhcgoaaRegLives
import Derived.Test.YtbicefilfhcgoaaRegBehind
import Derived.Test.YtbicefilfhcgoaaOpenNums
set_option linter.unusedSimpArgs false
set_option linter.unusedVariables false
set_option maxRecDepth 100000
namespace Go.Proofs.Ytbicefilfhcgoaa
open Go Go.RowKit Go.Sq Go.Wd Go.Arch

/-- An order of a number, in an epoch. -/
def entP (v i : Int) : Ent := (v, 1 + i, 0, -1, 2, 1)
theorem entP_ok {v : Int} {ids : List Int} (h : ∀ x ∈ ids, 0 ≤ x ∧ x ≤ 255) : ∀ e ∈ ids.map (entP v), e.1 = v ∧ ordOk (ordE e) = true := by
  intro e he
  obtain ⟨x, hx, rfl⟩ := List.mem_map.1 he
  have := h x hx
  refine ⟨rfl, ?_⟩
  unfold ordOk ordE entP
  simp only [decide_eq_true_eq]
  omega
theorem Recs.keep {w w' : World} {A : Option Addr} {l : List RecV} (h : Recs w w.heap.size A l) (hb : Below w.heap.size w w') : Recs w' w'.heap.size A l := (h.below hb).more hb.size
theorem apply_piece {r : RegS} (hm : mayR r = true) (hv : r.view = r.prom) (h1 : 1 ≤ r.view) {p : List Ent} (hp : ∀ e ∈ p, e.1 = r.view ∧ ordOk (ordE e) = true) (hl : r.log.length + p.length ≤ 64) (s : SlcE) :
    applyR r (⟨2, 0, r.view, 0, r.log.length, 0, s, p, (none, 0, 0)⟩ : RecV).s = some { r with log := r.log ++ p } := apply_more hm hv h1 hp hl _ rfl rfl rfl rfl

/-- Two places in a list, out of two numbers. -/
theorem cut_one (k n : Nat) : k % (n + 1) ≤ n := by have := Nat.mod_lt k (show 0 < n + 1 by omega); omega
theorem cut_two (k n a : Nat) (h : a ≤ n) : a ≤ a + k % (n - a + 1) ∧ a + k % (n - a + 1) ≤ n := by
  have := Nat.mod_lt k (show 0 < n - a + 1 by omega)
  omega
theorem cut_wrap (k n a : Nat) (h : a ≤ n) (hn : n ≤ 12) : wrap64 ((a : Int) + (k : Int) % ((n : Int) - (a : Int) + 1)) = ((a + k % (n - a + 1) : Nat) : Int) := by
  have e1 : (n : Int) - (a : Int) + 1 = ((n - a + 1 : Nat) : Int) := by omega
  have e2 := Nat.mod_lt k (show 0 < n - a + 1 by omega)
  rw [e1, ← Int.natCast_emod, IntWalk.wrap64_in _ ⟨by omega, by omega⟩]
  push_cast
  rfl
/-- The places of the pieces. -/
def cutP (a b n : Nat) : Nat → Nat
  | 0 => 0
  | 1 => a
  | 2 => b
  | _ => n
theorem cutP_le {a b n j : Nat} (h : a ≤ b ∧ b ≤ n) (hj : j < 3) : cutP a b n j ≤ cutP a b n (j + 1) ∧ cutP a b n (j + 1) ≤ n := by
  match j, hj with
  | 0, _ => exact ⟨by simp [cutP], by simp [cutP]; omega⟩
  | 1, _ => exact ⟨by simp [cutP]; omega, by simp [cutP]; omega⟩
  | 2, _ => exact ⟨by simp [cutP]; omega, by simp [cutP]⟩
def tabP (a b n : Nat) : List Value := [.int .i64 0, .int .i64 (a : Int), .int .i64 (a : Int), .int .i64 (b : Int), .int .i64 (b : Int), .int .i64 (n : Int)]
theorem tabP_at {w : World} {g : Nat} {T : TypeId} {a b n : Nat} (h : Blk w g T (tabP a b n)) {j : Nat} (hj : j < 3) :
    w.cell? ⟨g, j * 2, none⟩ = some (.int .i64 (cutP a b n j : Int)) ∧ w.cell? ⟨g, j * 2 + 1, none⟩ = some (.int .i64 (cutP a b n (j + 1) : Int)) := by
  match j, hj with
  | 0, _ => exact ⟨h.cell 0, h.cell 1⟩
  | 1, _ => exact ⟨h.cell 2, h.cell 3⟩
  | 2, _ => exact ⟨h.cell 4, h.cell 5⟩
/-- A piece of a log, as slicing makes it. -/
theorem LogAt.cut {w : World} {B n cap : Nat} {A : Option Addr} {l : List Ent} (h : LogAt w B (A, n, cap) l) {c d : Nat} (hcd : c ≤ d) (hd : d ≤ l.length) :
    LogAt w B (if cap = c then A else A.map (·.add (c * 6)), d - c, cap - c) ((l.drop c).take (d - c)) := by
  obtain ⟨h1, h2, h3, h4⟩ := h
  dsimp only at h1 h2 h3
  have hlen : ((l.drop c).take (d - c)).length = d - c := by rw [List.length_take, List.length_drop]; omega
  refine ⟨hlen.symm, by rw [hlen]; show d - c ≤ cap - c; omega, by show cap - c ≤ 9223372036854775807; omega, fun hl => ?_⟩
  rw [hlen] at hl
  obtain ⟨b, off, ha, hb, hc⟩ := h4 (by omega)
  rw [if_neg (by omega)]
  subst ha
  refine ⟨b, off + c * 6, congrArg some (add_off b off (c * 6)), hb, fun i e he => ?_⟩
  have hi := (List.getElem?_eq_some_iff.1 he).1
  rw [hlen] at hi
  rw [List.getElem?_take_of_lt hi, List.getElem?_drop] at he
  have := hc (c + i) e he
  rw [Nat.add_mul, ← Nat.add_assoc] at this
  exact this
theorem piece_more {l : List Ent} {c d : Nat} (hcd : c ≤ d) (hd : d ≤ l.length) : l.take c ++ (l.drop c).take (d - c) = l.take d := by
  have : l.take d = l.take (c + (d - c)) := by rw [Nat.add_sub_cancel' hcd]
  rw [this, List.take_add]
/-- What the loop over the pieces keeps. -/
def PieceI (w : World) (B : Nat) (rv rc : Int) (rl M lg : List Ent) (As Am : Option Addr) (cs cm : Nat) (sw sp : SlcE) (gr gw gp gt : Nat) (tab : List Value) (T : TypeId) (w' : World) : Prop :=
  (Below w.heap.size w w' ∧ B ≤ w'.heap.size) ∧ (Blk w' gr 24 (rgv ⟨rv, rv, rl, rc⟩ (As, rl.length, cs)) ∧ Blk w' gw 24 (rgv ⟨rv, rv, rl ++ M, rc⟩ sw) ∧ Blk w' gp 24 (rgv ⟨rv, rv, lg, rc⟩ sp) ∧ Blk w' gt T tab) ∧
  LogAt w' w'.heap.size (Am, M.length, cm) M ∧ LogAt w' w'.heap.size sw (rl ++ M) ∧ LogAt w' w'.heap.size sp lg
theorem PieceI.keep {w w' w2 : World} {B : Nat} {rv rc : Int} {rl M lg : List Ent} {As Am : Option Addr} {cs cm : Nat} {sw sp : SlcE} {gr gw gp gt : Nat} {tab : List Value} {T : TypeId}
    (h : PieceI w B rv rc rl M lg As Am cs cm sw sp gr gw gp gt tab T w') (hb : Below w'.heap.size w' w2) : PieceI w B rv rc rl M lg As Am cs cm sw sp gr gw gp gt tab T w2 := by
  obtain ⟨⟨h1, h6⟩, ⟨h2, h3, h4, h5⟩, h7, h8, h9⟩ := h
  exact ⟨⟨below_trans h1 hb h1.size, Nat.le_trans h6 hb.size⟩, ⟨h2.keep hb, h3.keep hb, h4.keep hb, h5.keep hb⟩, h7.keep hb, h8.keep hb, h9.keep hb⟩

set_option maxHeartbeats 8000000 in
theorem registerPieces_walk (l : List RecV) (A : Option Addr) (c : Nat) (ids : List Int) (Ai : Option Addr) (ci : Nat) (k0 k1 : Nat) (h0 : k0 ≤ 255) (h1 : k1 ≤ 255) (w : World) (hl : Recs w w.heap.size A l) (hn : l.length ≤ 9223372036854775807)
    (hi : Nums w w.heap.size Ai .u8 ids) (hiw : ∀ x ∈ ids, 0 ≤ x ∧ x ≤ 255) (hin : ids.length ≤ 9223372036854775807) :
    Calls Try.prog 7 #[.slice A l.length c, .slice Ai ids.length ci, .agg #[.int .u8 (k0 : Int), .int .u8 (k1 : Int)]] w fun e w' => e = .returned (.bool true) ∧ Below w.heap.size w w' := by
  have hw0 : Below w.heap.size w (w.alloc (.cells #[.int .u8 (k0 : Int), .int .u8 (k1 : Int)] 39)) := (Below.refl _ _).alloc (Nat.le_refl _) _
  have B0 : Blk (w.alloc (.cells #[.int .u8 (k0 : Int), .int .u8 (k1 : Int)] 39)) w.heap.size 39 [.int .u8 (k0 : Int), .int .u8 (k1 : Int)] := Blk.new w _ _
  have HE := Lib.hid (And.intro hl (And.intro hi hiw))
  have HB := Lib.hid (And.intro hw0 (And.intro B0 (hl.keep hw0)))
  clear hl hi hiw hw0 B0
  go_enter Try.func7, Try.ntmps7
  go_wp2_with fail
  refine (beyond15_any l A c _ HB.out.2.2 hn).mono ?_
  rintro e w1 ⟨rfl, rfl⟩
  have hs1 := HB.out.1.size
  have B1 := HB.out.2.1
  have hwA := HB.out.1
  have HR := Lib.hid HB.out.2.2
  clear HB
  generalize w.alloc (.cells #[.int .u8 (k0 : Int), .int .u8 (k1 : Int)] 39) = w1 at hs1 B1 hwA HR ⊢
  cases hbe : beyondR l with
  | true =>
    clear hbe
    go_wp2_with fail
    refine (lives15_any _).mono ?_
    rintro e w2 ⟨rfl, hb⟩
    have hB2 := below_trans hwA hb (hwA).size
    go_wp2_with fail
    go_ret
    exact ⟨rfl, hB2⟩
  | false =>
    have HN2 := Lib.hid (beyondR_no hbe).2
    clear hbe
    by_cases h12 : 12 < ids.length
    case pos =>
      go_wp2_with fail
      refine (lives15_any _).mono ?_
      rintro e w2 ⟨rfl, hb⟩
      have hB2 := below_trans hwA hb (hwA).size
      go_wp2_with fail
      go_ret
      exact ⟨rfl, hB2⟩
    have h12' : ids.length ≤ 12 := by omega
    go_wp2_with fail
    refine (behind15_any l A c w1 HR.out hn HN2.out).mono ?_
    rintro e w2 ⟨sl, rfl, hL, hb⟩
    have hm := behind_may l l.length
    rw [List.take_length] at hm
    generalize behindR l = r at hL hm ⊢
    have r64 := ((okLog_iff _ _).1 ((mayR_iff r).1 hm).2.1).1
    have r20 := ((mayR_iff r).1 hm).1
    have HM := Lib.hid hm
    clear hm
    have hw2 := below_trans hwA hb hs1
    have B2 := B1.keep hb
    have hz2 := hw2.size
    clear hb hwA B1 hs1 HR HN2
    obtain ⟨rp, rv, rl, rc⟩ := r
    obtain ⟨As, ns, cs⟩ := sl
    obtain rfl : ns = rl.length := hL.1
    dsimp only at r64 r20
    go_wp2_with ((with_reducible refine at_list ?_); first | (refine wpList_store_own rfl 24 _ _ rfl _ (rgv ⟨rp, rv, rl, rc⟩ (As, rl.length, cs)) rfl rfl _ _ (Blk.new w2 24 (rgv reg0 (none, 0, 0))) rg_info rfl (rgv_one _ _) ?_; intro w3 C3 g3) | (with_reducible refine cut_at 30 rfl ?_))
    refine Cut.go ?_
    have hb3 := below_new g3
    have hw3 := below_trans hw2 hb3 hz2
    have B3 := B2.keep hb3
    have L3 := hL.keep hb3
    have hz3 := hw3.size
    have l3 := C3.lt
    have hz23 := B2.lt
    clear hL g3 hb3 hw2 B2
    generalize w2.heap.size = gr at hz2 hz23 C3 l3 ⊢
    have x0 := C3.cell 0
    have x1 := C3.cell 1
    have x2 := C3.cell 2
    simp [rgv] at x0 x1 x2
    by_cases hv1 : rv < 1
    case pos =>
      go_wp2_with fail
      refine (lives15_any _).mono ?_
      rintro e w2 ⟨rfl, hb⟩
      have hB2 := below_trans hw3 hb (hw3).size
      go_wp2_with fail
      go_ret
      exact ⟨rfl, hB2⟩
    by_cases hv2 : rv = rp
    case neg =>
      have hvb : (rv != rp) = true := by rw [bne_iff_ne]; exact hv2
      go_wp2_with fail
      refine (lives15_any _).mono ?_
      rintro e w2 ⟨rfl, hb⟩
      have hB2 := below_trans hw3 hb (hw3).size
      go_wp2_with fail
      go_ret
      exact ⟨rfl, hB2⟩
    have hvb : (rv != rp) = false := by rw [bne_eq_false_iff_eq]; exact hv2
    by_cases hlen : 64 < rl.length + ids.length
    case pos =>
      have hd : (64 : Int) < (rl.length : Int) + (ids.length : Int) := by omega
      go_wp2_with fail
      refine (lives15_any _).mono ?_
      rintro e w2 ⟨rfl, hb⟩
      have hB2 := below_trans hw3 hb (hw3).size
      go_wp2_with fail
      go_ret
      exact ⟨rfl, hB2⟩
    have hd : ¬ (64 : Int) < (rl.length : Int) + (ids.length : Int) := by omega
    subst hv2
    go_wp2_with fail
    have hMl : (ids.map (entP rv)).length = ids.length := List.length_map _
    obtain ⟨M, hM⟩ : ∃ M, M = ids.map (entP rv) := ⟨_, rfl⟩
    have HMM := Lib.hid hM
    rw [← hM] at hMl
    have HML := Lib.hid hMl
    clear hM hMl x0 x1 x2 hvb
    go_loopg [8, 9] ids.length (fun q v i wr => ∃ (j : Nat), q = ids.length - j ∧ j ≤ ids.length ∧ i = .int .i64 j ∧ Below w3.heap.size w3 wr ∧ Row wr w3.heap.size v (M.take j))
    case atStart => exact ⟨0, rfl, by omega, rfl, Below.refl _ _, Row.nil _ _⟩
    case round =>
      obtain ⟨j, hq, hj, rfl, hB, hR⟩ := hrel
      have AA : Aside (gk = ids.length - j) := hq
      clear hq
      by_cases hlt : j < ids.length
      · obtain ⟨b1, o1, x, rfl, hx, FA⟩ := HE.out.2.1.at_ hlt
        have hxb := HE.out.2.2 x (List.mem_of_getElem? hx.out)
        have hz := hB.size
        have HRR := Lib.hid hR
        clear hR
        go_wp2_with fail
        refine wp_region_p ([(0, true), (1, true), (2, true), (3, true), (4, true), (5, true), (6, true), (7, true), (8, true), (9, false), (10, false), (11, false), (12, true)]) (fun w' => Below w3.heap.size w3 w') (by kernel_rfl) rfl (by kernel_rfl) (by kernel_rfl) (hB.drew) rfl ?_
        intro KP RP TP hKP hTP hTP'
        simp only [pick, nth]
        go_wp2_with (first
          | (apply SeqP.skip; rfl; simp only [Act.put, List.setIfInBounds_toArray, List.set_cons_zero, List.set_cons_succ])
          | (apply SeqP.call; rfl; rfl; (intro w2 hw; have hw := hTP _ hw; ((have z1 := (C3.keep hw).cell 1; have z0 := FA _ (below_trans hw3 hw hz3); simp [rgv] at z1)); go_simp; exact ⟨rfl, rfl⟩); (intro w2 hw; have hw := hTP _ hw; ((have z1 := (C3.keep hw).cell 1; have z0 := FA _ (below_trans hw3 hw hz3); simp [rgv] at z1)); (first | fail)); simp only [Act.put, List.setIfInBounds_toArray, List.set_cons_zero, List.set_cons_succ])
          | (apply SeqP.pure; rfl; (intro w2 hw; have hw := hTP _ hw; ((have z1 := (C3.keep hw).cell 1; have z0 := FA _ (below_trans hw3 hw hz3); simp [rgv] at z1)); go_simp; with_reducible rfl); simp only [Act.put, List.setIfInBounds_toArray, List.set_cons_zero, List.set_cons_succ])
          | (apply SeqP.split; rfl; rfl; all_goals (intro hc; simp only [hc]; try simp only [beq_iff_eq, decide_eq_true_eq, beq_eq_false_iff_ne, decide_eq_false_iff_not, bne_iff_ne, ne_eq, Bool.not_eq_true', Bool.not_eq_false', Int.not_le, Int.not_lt, bne_eq_false_iff_eq, Bool.or_eq_true, Bool.and_eq_true, Bool.or_eq_false_iff] at hc)))
        apply SeqP.eff
        · rfl
        intro KE hKE
        go_wp2_with fail
        refine (entry15_any _ _ _).mono ?_
        rintro e w4 ⟨rfl, hb⟩
        have hB4 := below_trans hB.drew hb hz
        have R4 := Row.keep (Row.keep HRR.out (Below.refl _ _).drew) hb
        refine hKE _ _ (hTP' _ hB4) ?_
        clear hKE KE hb
        unfold vals
        apply SeqP.eff
        · rfl
        intro KE hKE
        go_wp2_with fail
        refine eff_abs hKE (fun W' => Below w4.heap.size w4 W' ∧ LogAt W' W'.heap.size (some ⟨w4.heap.size, 0, none⟩, 1, 1) [(rv, 1 + x, 0, -1, 2, 1)]) ⟨(Below.refl _ _).alloc (Nat.le_refl _) _, lit_log w4 (rv, 1 + x, 0, -1, 2, 1)⟩ (fun W' h => hTP' _ (below_trans hB4 h.1 hB4.size)) ?_
        rintro w5 ⟨hb, hS⟩
        have hB5 := below_trans hB4 hb hB4.size
        have R5 := Row.keep R4 hb
        generalize w4.heap.size = gs at hS ⊢
        clear hKE KE hb R4 hB4 HRR
        apply SeqP.eff
        · rfl
        intro KE hKE
        obtain ⟨v6, w6, hrun, R6, hg6, _⟩ := Row.app R5 (some ⟨gs, 0, none⟩) 1 hS.2.2.2 (by rw [List.length_take]; simp; omega) hB5.size
        have hB6 := below_own hB5 hg6 R5 hB5.size
        refine oper_app (by rfl) (by rfl) (by rfl) hrun ?_
        refine hKE _ _ (hTP' _ hB6) ?_
        clear hKE KE
        go_wp2_with (first
          | (apply SeqP.skip; rfl; simp only [Act.put, List.setIfInBounds_toArray, List.set_cons_zero, List.set_cons_succ])
          | (apply SeqP.call; rfl; rfl; (intro w2 hw; have hw := hTP _ hw; (skip); go_simp; exact ⟨rfl, rfl⟩); (intro w2 hw; have hw := hTP _ hw; (skip); (first | fail)); simp only [Act.put, List.setIfInBounds_toArray, List.set_cons_zero, List.set_cons_succ])
          | (apply SeqP.pure; rfl; (intro w2 hw; have hw := hTP _ hw; (skip); go_simp; with_reducible rfl); simp only [Act.put, List.setIfInBounds_toArray, List.set_cons_zero, List.set_cons_succ])
          | (apply SeqP.split; rfl; rfl; all_goals (intro hc; simp only [hc]; try simp only [beq_iff_eq, decide_eq_true_eq, beq_eq_false_iff_ne, decide_eq_false_iff_not, bne_iff_ne, ne_eq, Bool.not_eq_true', Bool.not_eq_false', Int.not_le, Int.not_lt, bne_eq_false_iff_eq, Bool.or_eq_true, Bool.and_eq_true, Bool.or_eq_false_iff] at hc)))
        apply SeqP.nil
        refine hKP _ _ (hTP' _ (hB6)) ?_
        clear hKP hTP hTP'
        go_wp2_with fail
        go_roundg (ids.length - (j + 1))
        case measure => have hkk := AA.out; omega
        case rel =>
          refine ⟨j + 1, rfl, by omega, by go_num, hB6, ?_⟩
          have hMj : M[j]? = some (entP rv x) := by rw [HMM.out, List.getElem?_map, hx.out]; rfl
          rw [List.take_add_one, hMj]
          exact R6
      · obtain rfl : j = ids.length := by omega
        have hR2 : Row wr w3.heap.size u8 M := by rwa [List.take_of_length_le (by rw [HML.out]; omega)] at hR
        obtain ⟨Am, cm, hu8, km, km2, EM⟩ := hR2.form
        subst hu8
        have hB2 := below_trans hw3 hB hz3
        have C4 := C3.keep hB
        have D4 := B3.keep hB
        have L4 := L3.keep hB
        have hM12 : M.length ≤ 12 := by rw [HML.out]; omega
        have hM64 : rl.length + M.length ≤ 64 := by rw [HML.out]; omega
        have HMP : Hid (∀ e ∈ M, e.1 = rv ∧ ordOk (ordE e) = true) := Lib.hid (by rw [HMM.out]; exact entP_ok HE.out.2.2)
        have hlt' : ¬ ids.length < ids.length := hlt
        clear hR hR2 hB hw3 C3 B3 L3 hz3 l3 hz23 hz2 HML HMM hd hlen h12 h12'
        have hz := hB2.size
        have y0 := D4.cell 0
        have y1 := D4.cell 1
        simp at y0 y1
        obtain ⟨wq, rfl⟩ : ∃ z, z = wr := ⟨_, rfl⟩
        go_wp2_with ((with_reducible refine at_list ?_); (with_reducible refine cut_at 75 rfl ?_))
        refine Cut.go ?_
        obtain ⟨a, ha⟩ : ∃ a : Nat, a = k0 % (M.length + 1) := ⟨_, rfl⟩
        have ea : (k0 : Int) % ((M.length : Int) + 1) = (a : Int) := by rw [ha]; push_cast; rfl
        have haM : a ≤ M.length := by rw [ha]; exact cut_one k0 M.length
        rw [ea]
        clear ea ha
        go_wp2_with ((with_reducible refine at_list ?_); first | (with_reducible refine cut_at 88 rfl ?_) | refine wpList_load_blk rfl 24 _ rfl _ rfl _ _ _ (C4) Try.underlying24 rfl rg_info ?_)
        refine Cut.go ?_
        obtain ⟨b, hb⟩ : ∃ b : Nat, b = a + k1 % (M.length - a + 1) := ⟨_, rfl⟩
        have eb : wrap64 ((a : Int) + (k1 : Int) % ((M.length : Int) - (a : Int) + 1)) = (b : Int) := by rw [hb]; exact cut_wrap k1 M.length a haM hM12
        have hbM : a ≤ b ∧ b ≤ M.length := by rw [hb]; exact cut_two k1 M.length a haM
        rw [eb]
        clear eb hb y0 y1
        have x1 := C4.cell 1
        have x2 := C4.cell 2
        simp [rgv] at x1 x2
        have LM : LogAt wq wq.heap.size (Am, M.length, cm) M := ⟨rfl, km, km2, EM⟩
        go_wp2_with ((with_reducible refine at_list ?_); first | refine wpList_load_blk rfl 24 _ rfl _ rfl _ _ _ (C4) Try.underlying24 rfl rg_info ?_)
        refine (apply_to (As, rl.length, cs) (⟨2, 0, rv, 0, rl.length, 0, (Am, M.length, cm), M, (none, 0, 0)⟩ : RecV) wq (apply_piece (r := ⟨rv, rv, rl, rc⟩) HM.out rfl (by show (1 : Int) ≤ rv; omega) HMP.out (by show rl.length + M.length ≤ 64; omega) (Am, M.length, cm)) L4 LM (by show M.length ≤ 1000; omega)).mono ?_
        rintro e w4 ⟨sw, rfl, hW, hb⟩
        have C5 := C4.keep hb
        have L5 := L4.keep hb
        have M5 := LM.keep hb
        have hB4 := below_trans hB2 hb hz
        have hz4 := hB4.size
        clear hb C4 L4 LM EM x1 x2 D4 hB2 hz
        try clear wq
        have hlC := C5.lt
        go_wp2_with ((with_reducible refine at_list ?_); first | (refine wpList_store_own rfl 24 _ _ rfl _ (rgv ⟨rv, rv, rl ++ M, rc⟩ sw) rfl rfl _ _ (Blk.new w4 24 (rgv reg0 (none, 0, 0))) rg_info rfl (rgv_one _ _) ?_; intro w5 W5 g5) | (with_reducible refine cut_at 97 rfl ?_))
        refine Cut.go ?_
        have hb := below_new g5
        have C6 := C5.keep hb
        have L6 := L5.keep hb
        have M6 := M5.keep hb
        have H6 := hW.keep hb
        have hB5 := below_trans hB4 hb hz4
        have hz5 := hB5.size
        clear hb C5 L5 M5 hW hB4 hz4 g5
        generalize w4.heap.size = gw at W5 hlC ⊢
        go_wp2_with ((with_reducible refine at_list ?_); first | refine wpList_load_blk rfl 24 _ rfl _ rfl _ _ _ (C6) Try.underlying24 rfl rg_info ?_ | (refine wpList_store_own rfl 24 _ _ rfl _ (rgv ⟨rv, rv, rl, rc⟩ (As, rl.length, cs)) rfl rfl _ _ (Blk.new w5 24 (rgv reg0 (none, 0, 0))) rg_info rfl (rgv_one _ _) ?_; intro w6 P6 g6))
        have hb := below_new g6
        have C7 := C6.keep hb
        have W7 := W5.keep hb
        have L7 := L6.keep hb
        have M7 := M6.keep hb
        have H7 := H6.keep hb
        have hB6 := below_trans hB5 hb hz5
        have hz6 := hB6.size
        have hlW := W5.lt
        have hgp0 := hz5
        clear hb C6 L6 M6 H6 W5 hB5 hz5 g6
        generalize w5.heap.size = gp at P6 hlW hgp0 ⊢
        have hT : Below w6.heap.size w6 (w6.alloc (.cells (tabP a b M.length).toArray 46)) := (Below.refl _ _).alloc (Nat.le_refl _) _
        have T7 : Blk (w6.alloc (.cells (tabP a b M.length).toArray 46)) w6.heap.size 46 (tabP a b M.length) := Blk.new w6 _ _
        have hI : PieceI w (w6.heap.size + 1) rv rc rl M rl As Am cs cm sw (As, rl.length, cs) gr gw gp w6.heap.size (tabP a b M.length) 46 (w6.alloc (.cells (tabP a b M.length).toArray 46)) :=
          ⟨⟨below_trans hB6 hT hz6, by simp⟩, ⟨C7.keep hT, W7.keep hT, P6.keep hT, T7⟩, M7.keep hT, H7.keep hT, L7.keep hT⟩
        have HI := Lib.hid hI
        have HG := Lib.hid (And.intro C7.lt (And.intro W7.lt P6.lt))
        clear hI hT T7 C7 W7 P6 M7 H7 L7 hB6 hz6
        unfold tabP at HI
        generalize (w6.alloc _) = w7 at HI ⊢
        generalize w6.heap.size = gt at HI HG ⊢
        have HI2 : Hid (PieceI w (gt + 1) rv rc rl M rl As Am cs cm sw (As, rl.length, cs) gr gw gp gt (tabP a b M.length) 46 w7) := HI
        clear HI
        have kM : M.length ≤ cm := km
        go_loopg [109] 3 (fun q i wr => ∃ (j : Nat) (sp : SlcE), q = 3 - j ∧ j ≤ 3 ∧ i = .int .i64 j ∧ PieceI w (gt + 1) rv rc rl M (rl ++ M.take (cutP a b M.length j)) As Am cs cm sw sp gr gw gp gt (tabP a b M.length) 46 wr ∧ mayR ⟨rv, rv, rl ++ M.take (cutP a b M.length j), rc⟩ = true)
        case atStart => exact ⟨0, _, rfl, by omega, rfl, by have e : rl ++ M.take (cutP a b M.length 0) = rl := (by simp [cutP]); rw [e]; exact ⟨HI2.out, HM.out⟩⟩
        case round =>
          clear HI2
          obtain ⟨j, sp, hq, hj, rfl, hI, hmj⟩ := hrel
          have AA : Aside (gk = 3 - j) := hq
          have HMJ := Lib.hid hmj
          clear hmj
          clear hq
          by_cases hlt : j < 3
          · have hcd := cutP_le hbM hlt
            obtain ⟨lg, hlg⟩ : ∃ lg, lg = rl ++ M.take (cutP a b M.length j) := ⟨_, rfl⟩
            rw [← hlg] at hI HMJ
            have hln : rl ++ M.take (cutP a b M.length (j + 1)) = lg ++ (M.drop (cutP a b M.length j)).take (cutP a b M.length (j + 1) - cutP a b M.length j) := by
              rw [hlg, List.append_assoc, piece_more hcd.1 hcd.2]
            have hlgl : lg.length ≤ rl.length + cutP a b M.length j := by rw [hlg, List.length_append, List.length_take]; omega
            have HLN := Lib.hid hln
            obtain ⟨t0, t1⟩ := tabP_at hI.2.1.2.2.2 hlt
            have hgt : gt < wr.heap.size := by have := hI.1.2; omega
            clear hlg hln
            have hb := (Below.refl wr.heap.size wr).alloc (Nat.le_refl _) (.cells #[.int .i64 (cutP a b M.length j : Int), .int .i64 (cutP a b M.length (j + 1) : Int)] 46)
            have HI7 := Lib.hid (hI.keep hb)
            have HP := Lib.hid (Blk.new wr 46 [.int .i64 (cutP a b M.length j : Int), .int .i64 (cutP a b M.length (j + 1) : Int)])
            clear hb hI
            generalize cutP a b M.length j = cj at hcd t0 t1 HI7 HP HLN hlgl ⊢
            generalize hdj : cutP a b M.length (j + 1) = dj at hcd t0 t1 HI7 HP HLN ⊢
            have HDJ := Lib.hid hdj
            clear hdj
            go_wp2_with fail
            generalize (wr.alloc _) = wq at HI7 HP ⊢
            generalize wr.heap.size = gc at HP ⊢
            clear t0 t1 hgt
            obtain ⟨Ap, np, cp⟩ := sp
            have hnp : np = lg.length := HI7.out.2.2.2.2.1
            subst hnp
            have hpl : ((M.drop cj).take (dj - cj)).length = dj - cj := by rw [List.length_take, List.length_drop]; omega
            have hpc : ∀ e ∈ (M.drop cj).take (dj - cj), e.1 = rv ∧ ordOk (ordE e) = true := fun e he => HMP.out e (List.mem_of_mem_drop (List.mem_of_mem_take he))
            have k1 : (cj : Int) ≤ (dj : Int) := by omega
            have k2 : (dj : Int) ≤ (cm : Int) := by omega
            have k3 := hcd.1
            have k4 : dj ≤ cm := by omega
            by_cases hcc : cm = cj
            case pos =>
              have hif : ∀ (x y : Option Addr), (if cm = cj then x else y) = x := fun x y => if_pos hcc
              have HCC := Lib.hid hcc
              clear hcc
              have hes : (if cm = cj then Am else Am.map (·.add (cj * 6)), dj - cj, cm - cj) = ((Am, dj - cj, cm - cj) : SlcE) := by rw [if_pos HCC.out]
              have hap : applyR (⟨rv, rv, lg, rc⟩ : RegS) (⟨2, 0, rv, 0, lg.length, 0, (Am, dj - cj, cm - cj), (M.drop cj).take (dj - cj), (none, 0, 0)⟩ : RecV).s = some ⟨rv, rv, lg ++ (M.drop cj).take (dj - cj), rc⟩ :=
                apply_piece (r := ⟨rv, rv, lg, rc⟩) HMJ.out rfl (by show (1 : Int) ≤ rv; omega) hpc (by show lg.length + _ ≤ 64; rw [hpl]; omega) _
              obtain ⟨rn, hrn⟩ : ∃ rn : RegS, rn = ⟨rv, rv, lg ++ (M.drop cj).take (dj - cj), rc⟩ := ⟨_, rfl⟩
              rw [← hrn] at hap
              have hmn := (apply_stays hap).1
              rw [hrn] at hmn
              have hcut : ∀ W', LogAt W' W'.heap.size (Am, M.length, cm) M → LogAt W' W'.heap.size (Am, dj - cj, cm - cj) ((M.drop cj).take (dj - cj)) := fun W' h => by have h2 := h.cut hcd.1 hcd.2; rwa [hes] at h2
              have HAP := Lib.hid (And.intro hap (And.intro hmn (And.intro hrn (And.intro hpl hcut))))
              clear hap hmn hrn hpc hpl hcut hes
              refine wp_region_t (.quiet 0 (.quiet 1 (.quiet 2 (.quiet 3 (.quiet 4 (.quiet 5 (.quiet 6 (.quiet 7 (.quiet 8 (.quiet 9 (.quiet 10 (.quiet 11 (.quiet 12 (.two 13 17 (.quiet 14 (.quiet 15 (.quiet 16 (.one 17 (.one 18 (.quiet 19 .done)))))) (.one 13 (.quiet 14 (.quiet 15 (.quiet 16 (.one 18 (.quiet 19 .done)))))))))))))))))))) (fun w' => Below wq.heap.size wq w') (by kernel_rfl) (by kernel_rfl) (by kernel_rfl) (by kernel_rfl) ((Below.refl _ _).drew) rfl ?_
              intro KP RP TP hKP hTP hTP'
              simp only [Sch.fill, nth]
              apply merge2 (Inv := fun g s w' => Below wq.heap.size wq w' ∧ wq.heap.size ≤ g ∧ Blk w' g 24 (rgv rn s) ∧ LogAt w' w'.heap.size s (rn).log) (K := KP)
              · intro HK
                have hQ : Below wq.heap.size wq wq.drew := (Below.refl _ _).drew
                generalize wq.drew = wc at hQ ⊢
                go_wp2_with (first
                  | (apply SeqT.skip; rfl; simp only [Act.put, List.setIfInBounds_toArray, List.set_cons_zero, List.set_cons_succ])
                  | (apply SeqT.pure; rfl; (intro w9 hw9; have hw9 := hTP _ hw9; exact exec_load_blk 24 _ rfl _ rfl _ _ ((HI7.out.keep hw9).2.1.2.2.1) _ Try.underlying24 rfl rg_info); simp only [Act.put, List.setIfInBounds_toArray, List.set_cons_zero, List.set_cons_succ])
                  | (apply SeqT.pure; rfl; (intro w9 hw9; have hw9 := hTP _ hw9; ((have z1 := (HI7.out.keep hw9).2.1.1.cell 1; have z2 := (HI7.out.keep hw9).2.1.2.2.1.cell 2; have p0 := (HP.out.keep hw9).cell 0; have p1 := (HP.out.keep hw9).cell 1; simp [rgv] at z1 z2 p0 p1)); go_simp; with_reducible rfl); simp only [Act.put, List.setIfInBounds_toArray, List.set_cons_zero, List.set_cons_succ]))
                all_goals first | apply SeqT.two | apply SeqT.one
                all_goals first
                  | (refine EffT.is (some 127) rfl ?_
                     apply EffT.go
                     · rfl
                     intro KE hKE
                     go_wp2_with fail
                     refine (apply_to (Ap, lg.length, cp) (⟨2, 0, rv, 0, lg.length, 0, (Am, dj - cj, cm - cj), (M.drop cj).take (dj - cj), (none, 0, 0)⟩ : RecV) wc HAP.out.1 ((HI7.out.keep hQ).2.2.2.2) (HAP.out.2.2.2.2 _ (HI7.out.keep hQ).2.2.1) (by rw [HAP.out.2.2.2.1]; omega)).mono ?_
                     rintro e wd ⟨sr, rfl, hR0, hb⟩
                     have hQ' := below_trans hQ hb hQ.size
                     refine hKE _ _ (hTP' _ hQ') ?_
                     clear hKE KE hQ
                     try replace hZ := hZ.keep hb
                     clear hb
                     try clear wc
                     obtain ⟨wc, rfl⟩ : ∃ z, z = wd := ⟨_, rfl⟩
                     have hR := hR0
                     clear hR0
                     have hQ := hQ'
                     clear hQ'
                     go_wp2_with (first
                       | (apply SeqT.skip; rfl; simp only [Act.put, List.setIfInBounds_toArray, List.set_cons_zero, List.set_cons_succ])
                       | (apply SeqT.pure; rfl; (intro w9 hw9; have hw9 := hTP _ hw9; exact exec_load_blk 24 _ rfl _ rfl _ _ ((HI7.out.keep hw9).2.1.2.2.1) _ Try.underlying24 rfl rg_info); simp only [Act.put, List.setIfInBounds_toArray, List.set_cons_zero, List.set_cons_succ])
                       | (apply SeqT.pure; rfl; (intro w9 hw9; have hw9 := hTP _ hw9; ((have z1 := (HI7.out.keep hw9).2.1.1.cell 1; have z2 := (HI7.out.keep hw9).2.1.2.2.1.cell 2; have p0 := (HP.out.keep hw9).cell 0; have p1 := (HP.out.keep hw9).cell 1; simp [rgv] at z1 z2 p0 p1)); go_simp; with_reducible rfl); simp only [Act.put, List.setIfInBounds_toArray, List.set_cons_zero, List.set_cons_succ])))
                  | (refine EffT.is (some 17) rfl ?_
                     apply EffT.go
                     · rfl
                     intro KE hKE
                     go_wp2_with fail
                     refine eff_abs hKE (fun W' => Below wc.heap.size wc W' ∧ Blk W' wc.heap.size 24 (rgv reg0 (none, 0, 0))) ⟨(Below.refl _ _).alloc (Nat.le_refl _) _, Blk.new wc 24 (rgv reg0 (none, 0, 0))⟩ (fun W' h => hTP' _ (below_trans hQ h.1 hQ.size)) ?_
                     rintro wd ⟨hb, hZ0⟩
                     have hQ' := below_trans hQ hb hQ.size
                     have hgz := hQ.size
                     generalize wc.heap.size = gz at hZ0 hgz ⊢
                     clear hKE KE hQ
                     try replace hR := hR.keep hb
                     clear hb
                     try clear wc
                     obtain ⟨wc, rfl⟩ : ∃ z, z = wd := ⟨_, rfl⟩
                     have hZ := hZ0
                     clear hZ0
                     have hQ := hQ'
                     clear hQ'
                     go_wp2_with (first
                       | (apply SeqT.skip; rfl; simp only [Act.put, List.setIfInBounds_toArray, List.set_cons_zero, List.set_cons_succ])
                       | (apply SeqT.pure; rfl; (intro w9 hw9; have hw9 := hTP _ hw9; exact exec_load_blk 24 _ rfl _ rfl _ _ ((HI7.out.keep hw9).2.1.2.2.1) _ Try.underlying24 rfl rg_info); simp only [Act.put, List.setIfInBounds_toArray, List.set_cons_zero, List.set_cons_succ])
                       | (apply SeqT.pure; rfl; (intro w9 hw9; have hw9 := hTP _ hw9; ((have z1 := (HI7.out.keep hw9).2.1.1.cell 1; have z2 := (HI7.out.keep hw9).2.1.2.2.1.cell 2; have p0 := (HP.out.keep hw9).cell 0; have p1 := (HP.out.keep hw9).cell 1; simp [rgv] at z1 z2 p0 p1)); go_simp; with_reducible rfl); simp only [Act.put, List.setIfInBounds_toArray, List.set_cons_zero, List.set_cons_succ])))
                all_goals first | apply SeqT.two | apply SeqT.one
                all_goals first
                  | (refine EffT.is (some 127) rfl ?_
                     apply EffT.go
                     · rfl
                     intro KE hKE
                     go_wp2_with fail
                     refine (apply_to (Ap, lg.length, cp) (⟨2, 0, rv, 0, lg.length, 0, (Am, dj - cj, cm - cj), (M.drop cj).take (dj - cj), (none, 0, 0)⟩ : RecV) wc HAP.out.1 ((HI7.out.keep hQ).2.2.2.2) (HAP.out.2.2.2.2 _ (HI7.out.keep hQ).2.2.1) (by rw [HAP.out.2.2.2.1]; omega)).mono ?_
                     rintro e wd ⟨sr, rfl, hR0, hb⟩
                     have hQ' := below_trans hQ hb hQ.size
                     refine hKE _ _ (hTP' _ hQ') ?_
                     clear hKE KE hQ
                     try replace hZ := hZ.keep hb
                     clear hb
                     try clear wc
                     obtain ⟨wc, rfl⟩ : ∃ z, z = wd := ⟨_, rfl⟩
                     have hR := hR0
                     clear hR0
                     have hQ := hQ'
                     clear hQ'
                     go_wp2_with (first
                       | (apply SeqT.skip; rfl; simp only [Act.put, List.setIfInBounds_toArray, List.set_cons_zero, List.set_cons_succ])
                       | (apply SeqT.pure; rfl; (intro w9 hw9; have hw9 := hTP _ hw9; exact exec_load_blk 24 _ rfl _ rfl _ _ ((HI7.out.keep hw9).2.1.2.2.1) _ Try.underlying24 rfl rg_info); simp only [Act.put, List.setIfInBounds_toArray, List.set_cons_zero, List.set_cons_succ])
                       | (apply SeqT.pure; rfl; (intro w9 hw9; have hw9 := hTP _ hw9; ((have z1 := (HI7.out.keep hw9).2.1.1.cell 1; have z2 := (HI7.out.keep hw9).2.1.2.2.1.cell 2; have p0 := (HP.out.keep hw9).cell 0; have p1 := (HP.out.keep hw9).cell 1; simp [rgv] at z1 z2 p0 p1)); go_simp; with_reducible rfl); simp only [Act.put, List.setIfInBounds_toArray, List.set_cons_zero, List.set_cons_succ])))
                  | (refine EffT.is (some 17) rfl ?_
                     apply EffT.go
                     · rfl
                     intro KE hKE
                     go_wp2_with fail
                     refine eff_abs hKE (fun W' => Below wc.heap.size wc W' ∧ Blk W' wc.heap.size 24 (rgv reg0 (none, 0, 0))) ⟨(Below.refl _ _).alloc (Nat.le_refl _) _, Blk.new wc 24 (rgv reg0 (none, 0, 0))⟩ (fun W' h => hTP' _ (below_trans hQ h.1 hQ.size)) ?_
                     rintro wd ⟨hb, hZ0⟩
                     have hQ' := below_trans hQ hb hQ.size
                     have hgz := hQ.size
                     generalize wc.heap.size = gz at hZ0 hgz ⊢
                     clear hKE KE hQ
                     try replace hR := hR.keep hb
                     clear hb
                     try clear wc
                     obtain ⟨wc, rfl⟩ : ∃ z, z = wd := ⟨_, rfl⟩
                     have hZ := hZ0
                     clear hZ0
                     have hQ := hQ'
                     clear hQ'
                     go_wp2_with (first
                       | (apply SeqT.skip; rfl; simp only [Act.put, List.setIfInBounds_toArray, List.set_cons_zero, List.set_cons_succ])
                       | (apply SeqT.pure; rfl; (intro w9 hw9; have hw9 := hTP _ hw9; exact exec_load_blk 24 _ rfl _ rfl _ _ ((HI7.out.keep hw9).2.1.2.2.1) _ Try.underlying24 rfl rg_info); simp only [Act.put, List.setIfInBounds_toArray, List.set_cons_zero, List.set_cons_succ])
                       | (apply SeqT.pure; rfl; (intro w9 hw9; have hw9 := hTP _ hw9; ((have z1 := (HI7.out.keep hw9).2.1.1.cell 1; have z2 := (HI7.out.keep hw9).2.1.2.2.1.cell 2; have p0 := (HP.out.keep hw9).cell 0; have p1 := (HP.out.keep hw9).cell 1; simp [rgv] at z1 z2 p0 p1)); go_simp; with_reducible rfl); simp only [Act.put, List.setIfInBounds_toArray, List.set_cons_zero, List.set_cons_succ])))
                all_goals first | apply SeqT.two | apply SeqT.one
                all_goals
                  refine EffT.is none rfl ?_
                  apply EffT.go
                  · rfl
                  intro KE hKE
                  refine wp_store_own 24 _ _ rfl _ (rgv rn sr) rfl rfl _ _ hZ rg_info rfl (rgv_one _ _) ?_
                  intro wd B5 g5
                  have hQ' := hQ.trans (below_grown g5 hgz hQ.size)
                  have hR5 := hR.stored hZ (by simp [rgv]) g5
                  refine hKE _ _ (hTP' _ hQ') ?_
                  clear hKE KE
                  go_wp2_with (first
                    | (apply SeqT.skip; rfl; simp only [Act.put, List.setIfInBounds_toArray, List.set_cons_zero, List.set_cons_succ])
                    | (apply SeqT.pure; rfl; (intro w9 hw9; have hw9 := hTP _ hw9; exact exec_load_blk 24 _ rfl _ rfl _ _ ((HI7.out.keep hw9).2.1.2.2.1) _ Try.underlying24 rfl rg_info); simp only [Act.put, List.setIfInBounds_toArray, List.set_cons_zero, List.set_cons_succ])
                    | (apply SeqT.pure; rfl; (intro w9 hw9; have hw9 := hTP _ hw9; ((have z1 := (HI7.out.keep hw9).2.1.1.cell 1; have z2 := (HI7.out.keep hw9).2.1.2.2.1.cell 2; have p0 := (HP.out.keep hw9).cell 0; have p1 := (HP.out.keep hw9).cell 1; simp [rgv] at z1 z2 p0 p1)); go_simp; with_reducible rfl); simp only [Act.put, List.setIfInBounds_toArray, List.set_cons_zero, List.set_cons_succ]))
                  apply SeqT.done
                  exact HK gz sr wd ⟨hQ', hgz, B5, hR5⟩
              intro g s2 w3 ⟨hb3, hge, B3, R3⟩
              refine hKP _ _ (hTP' _ hb3) ?_
              clear hKP hTP hTP'
              have HI8 := Lib.hid (HI7.out.keep hb3)
              have R3' := Lib.hid R3
              have lP := HI8.out.2.1.2.2.1.lt
              clear HI7 R3 hb3 hge
              try clear wq
              go_wp2_with ((with_reducible refine at_list ?_); first | refine wpList_load_blk rfl 24 _ rfl _ rfl _ _ _ (B3) Try.underlying24 rfl rg_info ?_ | (refine wpList_store_own rfl 24 _ _ rfl _ (rgv rn s2) rfl rfl _ _ (HI8.out.2.1.2.2.1) rg_info rfl (rgv_one _ _) ?_; intro w4 D4 g4))
              have ne : ∀ m, m ≠ gp → some m ≠ some gp := fun m h e => h (Option.some.inj e)
              have hI9 : PieceI w (gt + 1) rv rc rl M (lg ++ (M.drop cj).take (dj - cj)) As Am cs cm sw s2 gr gw gp gt (tabP a b M.length) 46 w4 := by
                obtain ⟨⟨i1, i6⟩, ⟨i2, i3, i4, i5⟩, i7, i8, i9⟩ := HI8.out
                obtain ⟨n1, n2, n3⟩ := HG.out
                refine ⟨⟨i1.trans (below_grown g4 hgp0 i1.size), Nat.le_trans i6 g4.size⟩, ⟨i2.grown g4 (ne _ (by omega)), i3.grown g4 (ne _ (by omega)), D4.of_eq (by rw [HAP.out.2.2.1]), i5.grown g4 (ne _ (by omega))⟩, i7.stored i4 (by simp [rgv]) g4, i8.stored i4 (by simp [rgv]) g4, ?_⟩
                have := R3'.out.stored i4 (by simp [rgv]) g4
                rw [HAP.out.2.2.1] at this
                exact this
              go_roundg (3 - (j + 1))
              case measure => have hkk := AA.out; omega
              case rel => exact ⟨j + 1, s2, rfl, by omega, by go_num, by rw [HDJ.out, HLN.out]; exact hI9, by rw [HDJ.out, HLN.out]; exact HAP.out.2.1⟩
            case neg =>
              have hes : (if cm = cj then Am else Am.map (·.add (cj * 6)), dj - cj, cm - cj) = ((Option.map (fun x => x.add (cj * 6)) Am, dj - cj, cm - cj) : SlcE) := by rw [if_neg hcc]
              have hap : applyR (⟨rv, rv, lg, rc⟩ : RegS) (⟨2, 0, rv, 0, lg.length, 0, (Option.map (fun x => x.add (cj * 6)) Am, dj - cj, cm - cj), (M.drop cj).take (dj - cj), (none, 0, 0)⟩ : RecV).s = some ⟨rv, rv, lg ++ (M.drop cj).take (dj - cj), rc⟩ :=
                apply_piece (r := ⟨rv, rv, lg, rc⟩) HMJ.out rfl (by show (1 : Int) ≤ rv; omega) hpc (by show lg.length + _ ≤ 64; rw [hpl]; omega) _
              obtain ⟨rn, hrn⟩ : ∃ rn : RegS, rn = ⟨rv, rv, lg ++ (M.drop cj).take (dj - cj), rc⟩ := ⟨_, rfl⟩
              rw [← hrn] at hap
              have hmn := (apply_stays hap).1
              rw [hrn] at hmn
              have hcut : ∀ W', LogAt W' W'.heap.size (Am, M.length, cm) M → LogAt W' W'.heap.size (Option.map (fun x => x.add (cj * 6)) Am, dj - cj, cm - cj) ((M.drop cj).take (dj - cj)) := fun W' h => by have h2 := h.cut hcd.1 hcd.2; rwa [hes] at h2
              have HAP := Lib.hid (And.intro hap (And.intro hmn (And.intro hrn (And.intro hpl hcut))))
              clear hap hmn hrn hpc hpl hcut hes
              refine wp_region_t (.quiet 0 (.quiet 1 (.quiet 2 (.quiet 3 (.quiet 4 (.quiet 5 (.quiet 6 (.quiet 7 (.quiet 8 (.quiet 9 (.quiet 10 (.quiet 11 (.quiet 12 (.two 13 17 (.quiet 14 (.quiet 15 (.quiet 16 (.one 17 (.one 18 (.quiet 19 .done)))))) (.one 13 (.quiet 14 (.quiet 15 (.quiet 16 (.one 18 (.quiet 19 .done)))))))))))))))))))) (fun w' => Below wq.heap.size wq w') (by kernel_rfl) (by kernel_rfl) (by kernel_rfl) (by kernel_rfl) ((Below.refl _ _).drew) rfl ?_
              intro KP RP TP hKP hTP hTP'
              simp only [Sch.fill, nth]
              apply merge2 (Inv := fun g s w' => Below wq.heap.size wq w' ∧ wq.heap.size ≤ g ∧ Blk w' g 24 (rgv rn s) ∧ LogAt w' w'.heap.size s (rn).log) (K := KP)
              · intro HK
                have hQ : Below wq.heap.size wq wq.drew := (Below.refl _ _).drew
                generalize wq.drew = wc at hQ ⊢
                go_wp2_with (first
                  | (apply SeqT.skip; rfl; simp only [Act.put, List.setIfInBounds_toArray, List.set_cons_zero, List.set_cons_succ])
                  | (apply SeqT.pure; rfl; (intro w9 hw9; have hw9 := hTP _ hw9; exact exec_load_blk 24 _ rfl _ rfl _ _ ((HI7.out.keep hw9).2.1.2.2.1) _ Try.underlying24 rfl rg_info); simp only [Act.put, List.setIfInBounds_toArray, List.set_cons_zero, List.set_cons_succ])
                  | (apply SeqT.pure; rfl; (intro w9 hw9; have hw9 := hTP _ hw9; ((have z1 := (HI7.out.keep hw9).2.1.1.cell 1; have z2 := (HI7.out.keep hw9).2.1.2.2.1.cell 2; have p0 := (HP.out.keep hw9).cell 0; have p1 := (HP.out.keep hw9).cell 1; simp [rgv] at z1 z2 p0 p1)); go_simp; with_reducible rfl); simp only [Act.put, List.setIfInBounds_toArray, List.set_cons_zero, List.set_cons_succ]))
                all_goals first | apply SeqT.two | apply SeqT.one
                all_goals first
                  | (refine EffT.is (some 127) rfl ?_
                     apply EffT.go
                     · rfl
                     intro KE hKE
                     go_wp2_with fail
                     refine (apply_to (Ap, lg.length, cp) (⟨2, 0, rv, 0, lg.length, 0, (Option.map (fun x => x.add (cj * 6)) Am, dj - cj, cm - cj), (M.drop cj).take (dj - cj), (none, 0, 0)⟩ : RecV) wc HAP.out.1 ((HI7.out.keep hQ).2.2.2.2) (HAP.out.2.2.2.2 _ (HI7.out.keep hQ).2.2.1) (by rw [HAP.out.2.2.2.1]; omega)).mono ?_
                     rintro e wd ⟨sr, rfl, hR0, hb⟩
                     have hQ' := below_trans hQ hb hQ.size
                     refine hKE _ _ (hTP' _ hQ') ?_
                     clear hKE KE hQ
                     try replace hZ := hZ.keep hb
                     clear hb
                     try clear wc
                     obtain ⟨wc, rfl⟩ : ∃ z, z = wd := ⟨_, rfl⟩
                     have hR := hR0
                     clear hR0
                     have hQ := hQ'
                     clear hQ'
                     go_wp2_with (first
                       | (apply SeqT.skip; rfl; simp only [Act.put, List.setIfInBounds_toArray, List.set_cons_zero, List.set_cons_succ])
                       | (apply SeqT.pure; rfl; (intro w9 hw9; have hw9 := hTP _ hw9; exact exec_load_blk 24 _ rfl _ rfl _ _ ((HI7.out.keep hw9).2.1.2.2.1) _ Try.underlying24 rfl rg_info); simp only [Act.put, List.setIfInBounds_toArray, List.set_cons_zero, List.set_cons_succ])
                       | (apply SeqT.pure; rfl; (intro w9 hw9; have hw9 := hTP _ hw9; ((have z1 := (HI7.out.keep hw9).2.1.1.cell 1; have z2 := (HI7.out.keep hw9).2.1.2.2.1.cell 2; have p0 := (HP.out.keep hw9).cell 0; have p1 := (HP.out.keep hw9).cell 1; simp [rgv] at z1 z2 p0 p1)); go_simp; with_reducible rfl); simp only [Act.put, List.setIfInBounds_toArray, List.set_cons_zero, List.set_cons_succ])))
                  | (refine EffT.is (some 17) rfl ?_
                     apply EffT.go
                     · rfl
                     intro KE hKE
                     go_wp2_with fail
                     refine eff_abs hKE (fun W' => Below wc.heap.size wc W' ∧ Blk W' wc.heap.size 24 (rgv reg0 (none, 0, 0))) ⟨(Below.refl _ _).alloc (Nat.le_refl _) _, Blk.new wc 24 (rgv reg0 (none, 0, 0))⟩ (fun W' h => hTP' _ (below_trans hQ h.1 hQ.size)) ?_
                     rintro wd ⟨hb, hZ0⟩
                     have hQ' := below_trans hQ hb hQ.size
                     have hgz := hQ.size
                     generalize wc.heap.size = gz at hZ0 hgz ⊢
                     clear hKE KE hQ
                     try replace hR := hR.keep hb
                     clear hb
                     try clear wc
                     obtain ⟨wc, rfl⟩ : ∃ z, z = wd := ⟨_, rfl⟩
                     have hZ := hZ0
                     clear hZ0
                     have hQ := hQ'
                     clear hQ'
                     go_wp2_with (first
                       | (apply SeqT.skip; rfl; simp only [Act.put, List.setIfInBounds_toArray, List.set_cons_zero, List.set_cons_succ])
                       | (apply SeqT.pure; rfl; (intro w9 hw9; have hw9 := hTP _ hw9; exact exec_load_blk 24 _ rfl _ rfl _ _ ((HI7.out.keep hw9).2.1.2.2.1) _ Try.underlying24 rfl rg_info); simp only [Act.put, List.setIfInBounds_toArray, List.set_cons_zero, List.set_cons_succ])
                       | (apply SeqT.pure; rfl; (intro w9 hw9; have hw9 := hTP _ hw9; ((have z1 := (HI7.out.keep hw9).2.1.1.cell 1; have z2 := (HI7.out.keep hw9).2.1.2.2.1.cell 2; have p0 := (HP.out.keep hw9).cell 0; have p1 := (HP.out.keep hw9).cell 1; simp [rgv] at z1 z2 p0 p1)); go_simp; with_reducible rfl); simp only [Act.put, List.setIfInBounds_toArray, List.set_cons_zero, List.set_cons_succ])))
                all_goals first | apply SeqT.two | apply SeqT.one
                all_goals first
                  | (refine EffT.is (some 127) rfl ?_
                     apply EffT.go
                     · rfl
                     intro KE hKE
                     go_wp2_with fail
                     refine (apply_to (Ap, lg.length, cp) (⟨2, 0, rv, 0, lg.length, 0, (Option.map (fun x => x.add (cj * 6)) Am, dj - cj, cm - cj), (M.drop cj).take (dj - cj), (none, 0, 0)⟩ : RecV) wc HAP.out.1 ((HI7.out.keep hQ).2.2.2.2) (HAP.out.2.2.2.2 _ (HI7.out.keep hQ).2.2.1) (by rw [HAP.out.2.2.2.1]; omega)).mono ?_
                     rintro e wd ⟨sr, rfl, hR0, hb⟩
                     have hQ' := below_trans hQ hb hQ.size
                     refine hKE _ _ (hTP' _ hQ') ?_
                     clear hKE KE hQ
                     try replace hZ := hZ.keep hb
                     clear hb
                     try clear wc
                     obtain ⟨wc, rfl⟩ : ∃ z, z = wd := ⟨_, rfl⟩
                     have hR := hR0
                     clear hR0
                     have hQ := hQ'
                     clear hQ'
                     go_wp2_with (first
                       | (apply SeqT.skip; rfl; simp only [Act.put, List.setIfInBounds_toArray, List.set_cons_zero, List.set_cons_succ])
                       | (apply SeqT.pure; rfl; (intro w9 hw9; have hw9 := hTP _ hw9; exact exec_load_blk 24 _ rfl _ rfl _ _ ((HI7.out.keep hw9).2.1.2.2.1) _ Try.underlying24 rfl rg_info); simp only [Act.put, List.setIfInBounds_toArray, List.set_cons_zero, List.set_cons_succ])
                       | (apply SeqT.pure; rfl; (intro w9 hw9; have hw9 := hTP _ hw9; ((have z1 := (HI7.out.keep hw9).2.1.1.cell 1; have z2 := (HI7.out.keep hw9).2.1.2.2.1.cell 2; have p0 := (HP.out.keep hw9).cell 0; have p1 := (HP.out.keep hw9).cell 1; simp [rgv] at z1 z2 p0 p1)); go_simp; with_reducible rfl); simp only [Act.put, List.setIfInBounds_toArray, List.set_cons_zero, List.set_cons_succ])))
                  | (refine EffT.is (some 17) rfl ?_
                     apply EffT.go
                     · rfl
                     intro KE hKE
                     go_wp2_with fail
                     refine eff_abs hKE (fun W' => Below wc.heap.size wc W' ∧ Blk W' wc.heap.size 24 (rgv reg0 (none, 0, 0))) ⟨(Below.refl _ _).alloc (Nat.le_refl _) _, Blk.new wc 24 (rgv reg0 (none, 0, 0))⟩ (fun W' h => hTP' _ (below_trans hQ h.1 hQ.size)) ?_
                     rintro wd ⟨hb, hZ0⟩
                     have hQ' := below_trans hQ hb hQ.size
                     have hgz := hQ.size
                     generalize wc.heap.size = gz at hZ0 hgz ⊢
                     clear hKE KE hQ
                     try replace hR := hR.keep hb
                     clear hb
                     try clear wc
                     obtain ⟨wc, rfl⟩ : ∃ z, z = wd := ⟨_, rfl⟩
                     have hZ := hZ0
                     clear hZ0
                     have hQ := hQ'
                     clear hQ'
                     go_wp2_with (first
                       | (apply SeqT.skip; rfl; simp only [Act.put, List.setIfInBounds_toArray, List.set_cons_zero, List.set_cons_succ])
                       | (apply SeqT.pure; rfl; (intro w9 hw9; have hw9 := hTP _ hw9; exact exec_load_blk 24 _ rfl _ rfl _ _ ((HI7.out.keep hw9).2.1.2.2.1) _ Try.underlying24 rfl rg_info); simp only [Act.put, List.setIfInBounds_toArray, List.set_cons_zero, List.set_cons_succ])
                       | (apply SeqT.pure; rfl; (intro w9 hw9; have hw9 := hTP _ hw9; ((have z1 := (HI7.out.keep hw9).2.1.1.cell 1; have z2 := (HI7.out.keep hw9).2.1.2.2.1.cell 2; have p0 := (HP.out.keep hw9).cell 0; have p1 := (HP.out.keep hw9).cell 1; simp [rgv] at z1 z2 p0 p1)); go_simp; with_reducible rfl); simp only [Act.put, List.setIfInBounds_toArray, List.set_cons_zero, List.set_cons_succ])))
                all_goals first | apply SeqT.two | apply SeqT.one
                all_goals
                  refine EffT.is none rfl ?_
                  apply EffT.go
                  · rfl
                  intro KE hKE
                  refine wp_store_own 24 _ _ rfl _ (rgv rn sr) rfl rfl _ _ hZ rg_info rfl (rgv_one _ _) ?_
                  intro wd B5 g5
                  have hQ' := hQ.trans (below_grown g5 hgz hQ.size)
                  have hR5 := hR.stored hZ (by simp [rgv]) g5
                  refine hKE _ _ (hTP' _ hQ') ?_
                  clear hKE KE
                  go_wp2_with (first
                    | (apply SeqT.skip; rfl; simp only [Act.put, List.setIfInBounds_toArray, List.set_cons_zero, List.set_cons_succ])
                    | (apply SeqT.pure; rfl; (intro w9 hw9; have hw9 := hTP _ hw9; exact exec_load_blk 24 _ rfl _ rfl _ _ ((HI7.out.keep hw9).2.1.2.2.1) _ Try.underlying24 rfl rg_info); simp only [Act.put, List.setIfInBounds_toArray, List.set_cons_zero, List.set_cons_succ])
                    | (apply SeqT.pure; rfl; (intro w9 hw9; have hw9 := hTP _ hw9; ((have z1 := (HI7.out.keep hw9).2.1.1.cell 1; have z2 := (HI7.out.keep hw9).2.1.2.2.1.cell 2; have p0 := (HP.out.keep hw9).cell 0; have p1 := (HP.out.keep hw9).cell 1; simp [rgv] at z1 z2 p0 p1)); go_simp; with_reducible rfl); simp only [Act.put, List.setIfInBounds_toArray, List.set_cons_zero, List.set_cons_succ]))
                  apply SeqT.done
                  exact HK gz sr wd ⟨hQ', hgz, B5, hR5⟩
              intro g s2 w3 ⟨hb3, hge, B3, R3⟩
              refine hKP _ _ (hTP' _ hb3) ?_
              clear hKP hTP hTP'
              have HI8 := Lib.hid (HI7.out.keep hb3)
              have R3' := Lib.hid R3
              have lP := HI8.out.2.1.2.2.1.lt
              clear HI7 R3 hb3 hge
              try clear wq
              go_wp2_with ((with_reducible refine at_list ?_); first | refine wpList_load_blk rfl 24 _ rfl _ rfl _ _ _ (B3) Try.underlying24 rfl rg_info ?_ | (refine wpList_store_own rfl 24 _ _ rfl _ (rgv rn s2) rfl rfl _ _ (HI8.out.2.1.2.2.1) rg_info rfl (rgv_one _ _) ?_; intro w4 D4 g4))
              have ne : ∀ m, m ≠ gp → some m ≠ some gp := fun m h e => h (Option.some.inj e)
              have hI9 : PieceI w (gt + 1) rv rc rl M (lg ++ (M.drop cj).take (dj - cj)) As Am cs cm sw s2 gr gw gp gt (tabP a b M.length) 46 w4 := by
                obtain ⟨⟨i1, i6⟩, ⟨i2, i3, i4, i5⟩, i7, i8, i9⟩ := HI8.out
                obtain ⟨n1, n2, n3⟩ := HG.out
                refine ⟨⟨i1.trans (below_grown g4 hgp0 i1.size), Nat.le_trans i6 g4.size⟩, ⟨i2.grown g4 (ne _ (by omega)), i3.grown g4 (ne _ (by omega)), D4.of_eq (by rw [HAP.out.2.2.1]), i5.grown g4 (ne _ (by omega))⟩, i7.stored i4 (by simp [rgv]) g4, i8.stored i4 (by simp [rgv]) g4, ?_⟩
                have := R3'.out.stored i4 (by simp [rgv]) g4
                rw [HAP.out.2.2.1] at this
                exact this
              go_roundg (3 - (j + 1))
              case measure => have hkk := AA.out; omega
              case rel => exact ⟨j + 1, s2, rfl, by omega, by go_num, by rw [HDJ.out, HLN.out]; exact hI9, by rw [HDJ.out, HLN.out]; exact HAP.out.2.1⟩
          · obtain rfl : j = 3 := by omega
            have e3 : M.take (cutP a b M.length 3) = M := by simp [cutP]
            rw [e3] at hI
            have W9 := hI.2.1.2.1
            have P9 := hI.2.1.2.2.1
            have H9 := hI.2.2.2.1
            have S9 := hI.2.2.2.2
            have hB9 := hI.1.1
            have hz9 := hB9.size
            clear hI
            go_wp2_with ((with_reducible refine at_list ?_); first | refine wpList_load_blk_g 24 _ rfl rfl _ rfl _ _ _ (W9) Try.underlying24 rfl rg_info ?_ | refine wpList_load_blk_g 24 _ rfl rfl _ rfl _ _ _ (P9) Try.underlying24 rfl rg_info ?_)
            refine (samereg_any ⟨rv, rv, rl ++ M, rc⟩ ⟨rv, rv, rl ++ M, rc⟩ sw sp wr H9 S9 rfl).mono ?_
            rintro e w8 ⟨rfl, hb⟩
            have hB10 := below_trans hB9 hb hz9
            have hz10 := hB10.size
            go_wp2_with fail
            refine (lives15_any _).mono ?_
            rintro e w9 ⟨rfl, hb9⟩
            have hB11 := below_trans hB10 hb9 hz10
            go_wp2_with fail
            go_ret
            exact ⟨rfl, hB11⟩
end Go.Proofs.Ytbicefilfhcgoaa
