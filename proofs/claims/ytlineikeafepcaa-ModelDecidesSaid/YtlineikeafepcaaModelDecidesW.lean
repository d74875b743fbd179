/-
  The walk over the statement ModelDecides.
-/
import Derived.Test.YtlineikeafepcaaMdlHeld
import Derived.Test.YtlineikeafepcaaMdlOrd
import Derived.Test.YtlineikeafepcaaMdlLivesW
set_option linter.unusedSimpArgs false
set_option linter.unusedVariables false
set_option maxRecDepth 100000
namespace Go.Proofs.Ytlineikeafepcaa
open Go Go.RowKit Go.Sq Go.Wd Go.Arch

theorem neq_st (w : World) (s : St) : (binOp .neq 40 (.agg (stv s).toArray) (.agg (stv s).toArray)).run Try.prog w = .ok (.bool false) w := by
  have g0 := Try.underlying40
  simp [stv, go_sem]
/-- Whether an order's ID is known. -/
def knownB (o : Ord) (l : List Ord) : Bool := l.any fun x => x.id == o.id
theorem known_next {o x : Ord} {l : List Ord} {j : Nat} (h : l[j]? = some x) : knownB o (l.take (j + 1)) = (knownB o (l.take j) || (x.id == o.id)) := by
  unfold knownB
  rw [List.take_add_one, h, List.any_append]
  simp
theorem known_not {o : Ord} {l : List Ord} (h : knownB o l = false) : ∀ x ∈ l, x.id ≠ o.id := fun x hx e => by
  unfold knownB at h
  have := List.any_eq_false.1 h x hx
  simp [e] at this
theorem orders_len {M : Logs} (h : FineM M) (s : Int) : (ordersM M s).length ≤ 64 := by
  unfold ordersM
  split
  · rw [List.length_map]
    exact (h _ (by omega)).1
  · simp
abbrev T57 : TypeId := 57
set_option maxHeartbeats 4000000 in
theorem modelDecides_walk (l : List Ord) (A : Option Addr) (c : Nat) (o : Ord) (w : World) (hl : Ords w w.heap.size A l) (hll : l.length ≤ 9223372036854775807) :
    Calls Try.prog 6 #[.slice A l.length c, .agg (ordv o).toArray] w fun r w' => r = .returned (.bool true) ∧ Below w.heap.size w w' := by
  have HL := Lib.hid hl
  have hb0 : Below w.heap.size w (w.alloc (.cells (ordv o).toArray 37)) := (Below.refl _ _).alloc (Nat.le_refl _) _
  have BO := Blk.new w 37 (ordv o)
  have HH := Lib.hid (And.intro hb0 BO)
  clear hl hb0 BO
  go_enter Try.func6, Try.ntmps6
  by_cases h60 : 60 < l.length
  case pos =>
    have h60b : (60 : Int) < (l.length : Int) := by omega
    go_wp2_with fail
    refine (lives_any _).mono ?_
    rintro r w1 ⟨rfl, hb⟩
    have hB := below_trans HH.out.1 hb HH.out.1.size
    go_wp2_with fail
    go_ret
    exact ⟨rfl, hB⟩
  have h60b : ¬ (60 : Int) < (l.length : Int) := by omega
  go_wp2_with fail
  generalize (w.alloc (.cells (ordv o).toArray 37)) = wa at HH ⊢
  refine (new_any _).mono ?_
  rintro r w1 ⟨rfl, rfl⟩
  have HM := Lib.hid (show DI w (wa.alloc (.cells #[.bool true, .slice none 0 0, .slice none 0 0, .slice none 0 0, .slice none 0 0] 52)) wa.heap.size noSl noLogs [(w.heap.size, 37, ordv o)] from
    ⟨⟨HH.out.1.trans (((Below.refl wa.heap.size wa).alloc (Nat.le_refl _) _).mono HH.out.1.size), HH.out.1.size, mdl_new wa⟩, fun q hq => by
      obtain rfl : q = (w.heap.size, 37, ordv o) := by simpa using hq
      exact ⟨HH.out.2.alloc _, by have := HH.out.2.lt; omega, Nat.le_refl _⟩⟩)
  obtain ⟨g, hg⟩ : ∃ z, wa.heap.size = z := ⟨_, rfl⟩
  rw [hg] at HM ⊢
  generalize (wa.alloc (.cells #[.bool true, .slice none 0 0, .slice none 0 0, .slice none 0 0, .slice none 0 0] 52)) = w1 at HM ⊢
  clear hg HH
  go_wp2_with fail
  go_loopg [6] l.length (fun q i wr => ∃ (j : Nat) (ss : Nat → SlcE), q = l.length - j ∧ j ≤ l.length ∧ i = .int .i64 j ∧ DI w wr g ss (playM noLogs (l.take j)) [(w.heap.size, 37, ordv o)])
  case atStart => exact ⟨0, noSl, rfl, by omega, rfl, HM.out⟩
  case round =>
    clear HM
    obtain ⟨j, ss, hq, hj, rfl, hM⟩ := hrel
    have AA : Aside (gk = l.length - j) := hq
    have HM := Lib.hid hM
    clear hq hM
    by_cases hlt : j < l.length
    · obtain ⟨b1, o1, x, rfl, hx, hb1, FA⟩ := HL.out.at_ hlt
      obtain ⟨p0, p1, p2, p3, p4⟩ := FA _ HM.out.1.1
      clear FA
      go_wp2_with fail
      refine (do_any (playM noLogs (l.take j)) x g ss wr HM.out.1.2.2 (fine_play fine_nil _)).mono ?_
      rintro r w2 ⟨ss', sl, rfl, hm, _, hg⟩
      have HM2 := Lib.hid (HM.out.do_ hg hm)
      clear hm hg HM p0 p1 p2 p3 p4
      go_wp2_with fail
      go_roundg (l.length - (j + 1))
      case measure => have hkk := AA.out; omega
      case rel => exact ⟨j + 1, ss', rfl, by omega, by go_num, by rw [play_next hx.out]; exact HM2.out⟩
    · obtain rfl : j = l.length := by omega
      rw [List.take_length] at HM
      have HF := Lib.hid (fine_play fine_nil l)
      obtain ⟨M, hMM⟩ : ∃ z, playM noLogs l = z := ⟨_, rfl⟩
      rw [show playM (fun _ => []) l = M from hMM] at HF
      rw [hMM] at HM
      obtain ⟨w3, rfl⟩ : ∃ z, z = wr := ⟨_, rfl⟩
      clear hlt hj hMM
      have HM2 := Lib.hid (show DI w (w3.alloc (.cells #[.int .i64 0, .bool false, .int .i64 0, .int .i64 0, .int .i64 0, .bool false, .int .i64 0, .int .i64 0, .int .i64 0, .bool false, .int .i64 0, .int .i64 0, .int .i64 0, .bool false, .int .i64 0, .int .i64 0] T57)) g ss M [(w3.heap.size, T57, wasC M 0), (w.heap.size, 37, ordv o)] from HM.out.alloc T57 (wasC M 0))
      obtain ⟨q, hq⟩ : ∃ z, w3.heap.size = z := ⟨_, rfl⟩
      have hqo : ∀ x ∈ [(w.heap.size, 37, ordv o)], x.1 ≠ q := fun x hx => by
        obtain rfl : x = (w.heap.size, 37, ordv o) := by simpa using hx
        have := (HM.out.blk 0 rfl).lt
        dsimp only at this ⊢
        omega
      have HQ := Lib.hid hqo
      clear HM hqo
      go_wp2_with fail
      rw [hq] at HM2
      clear hq
      generalize (w3.alloc (.cells #[.int .i64 0, .bool false, .int .i64 0, .int .i64 0, .int .i64 0, .bool false, .int .i64 0, .int .i64 0, .int .i64 0, .bool false, .int .i64 0, .int .i64 0, .int .i64 0, .bool false, .int .i64 0, .int .i64 0] T57)) = w4 at HM2 ⊢
      go_loopg [8] 4 (fun k i wr => ∃ (S : Nat), k = 4 - S ∧ S ≤ 4 ∧ i = .int .i64 S ∧ DI w wr g ss M [(q, T57, wasC M S), (w.heap.size, 37, ordv o)])
      case atStart => exact ⟨0, rfl, by omega, rfl, HM2.out⟩
      case round =>
        clear HM2
        obtain ⟨S, hk, hS, rfl, hM⟩ := hrel
        have BB : Aside (gk = 4 - S) := hk
        have HM := Lib.hid hM
        clear hk hM
        by_cases hlt : S < 4
        · have hlti : (S : Int) < 4 := by omega
          have hv : stateM M S = ((foldS (M S)).1, 0) := by
            unfold stateM
            rw [if_pos (by omega), show (S : Int).toNat = S from rfl]
          have HV := Lib.hid hv
          clear hv
          go_wp2_with fail
          refine (state_val HV.out g ss _ HM.out.1.2.2 HF.out).mono ?_
          rintro r w6 ⟨rfl, hb⟩
          have HM6 := Lib.hid (HM.out.keep hb)
          have VG := HM6.out.blk 0 rfl
          dsimp only at VG
          have hle : S * 4 + 4 ≤ (wasC M S).length := by rw [was_len]; omega
          clear hb HM
          go_wp2_with ((with_reducible refine at_list ?_); first | (refine wpList_store_part_own rfl 40 _ _ rfl _ _ (stv (foldS (M S)).1) rfl rfl _ _ VG hle state_info (stv_one _) ?_; intro w7 B7 g7))
          have HM7 := Lib.hid (HM6.out.turn g7 (B7.of_eq (was_set M hlt)) (by decide) HQ.out)
          clear B7 g7 VG HM6
          go_roundg (4 - (S + 1))
          case measure => have hkk := BB.out; omega
          case rel => exact ⟨S + 1, rfl, by omega, by go_num, HM7.out⟩
        · obtain rfl : S = 4 := by omega
          obtain ⟨w5, rfl⟩ : ∃ z, z = wr := ⟨_, rfl⟩
          clear hlt hS
          have x1 := (HM.out.blk 1 rfl).cell 1
          simp only [ordv, List.getElem?_cons_succ, List.getElem?_cons_zero] at x1
          go_wp2_with fail
          refine (orders_any M o.stream g ss _ HM.out.1.2.2 HF.out).mono ?_
          rintro r w6 ⟨v, rfl, R6, hb⟩
          have HM6 := Lib.hid (HM.out.keep hb)
          obtain ⟨A2, c2, rfl, k1, k2, O6⟩ := R6.form
          have hhl := orders_len HF.out o.stream
          obtain ⟨hd, hhd⟩ : ∃ z, ordersM M o.stream = z := ⟨_, rfl⟩
          rw [hhd] at O6 hhl k1 ⊢
          have HD := Lib.hid hhd
          have HO := Lib.hid O6
          clear hb HM x1 R6 O6 hhd
          go_wp2_with fail
          go_loopg [9, 11] hd.length (fun k b i wr => ∃ (j : Nat), k = hd.length - j ∧ j ≤ hd.length ∧ b = .bool (knownB o (hd.take j)) ∧ i = .int .i64 j ∧ DI w wr g ss M [(q, T57, wasC M 4), (w.heap.size, 37, ordv o)] ∧ Ords wr wr.heap.size A2 hd)
          case atStart => exact ⟨0, rfl, by omega, rfl, rfl, HM6.out, HO.out⟩
          case round =>
            clear HM6 HO
            obtain ⟨j, hk, hj, rfl, rfl, hM, hO⟩ := hrel
            have AA : Aside (gk = hd.length - j) := hk
            have HM := Lib.hid hM
            have HO := Lib.hid hO
            clear hk hM hO
            by_cases hlt : j < hd.length
            · obtain ⟨b1, o1, x, rfl, hx, hb1, FA⟩ := HO.out.at_ hlt
              unfold OrdAt at FA
              have OB := HM.out.blk 1 rfl
              dsimp only at OB
              have x0 := OB.cell 0
              simp only [ordv, List.getElem?_cons_succ, List.getElem?_cons_zero] at x0
              have FB : ∀ w', Below wr.heap.size wr w' → w'.cell? ⟨w.heap.size, 0, none⟩ = some (.int .i64 o.id) := fun w' hw => (hw.cell (p := ⟨w.heap.size, 0, none⟩) OB.lt).trans x0
              obtain ⟨e, he⟩ : ∃ e, (x.id == o.id) = e := ⟨_, rfl⟩
              obtain ⟨kb, hkb⟩ : ∃ e, knownB o (hd.take j) = e := ⟨_, rfl⟩
              have hnx : knownB o (hd.take (j + 1)) = (kb || e) := by rw [← hkb, ← he]; exact known_next hx.out
              have HN := Lib.hid hnx
              rw [hkb]
              clear hnx hkb OB x0
              have Hd := Lib.hid (HM.out.keep (Below.refl _ _).drew)
              have Hdo := Lib.hid (HO.out.keep (Below.refl _ _).drew)
              clear HM HO
              go_wp2_with fail
              refine wp_region_p ([(0, true), (1, true), (2, true), (3, true), (4, true), (5, true), (6, true), (7, true), (8, true), (9, true), (10, true), (11, true)]) (fun w' => Below wr.heap.size wr w') (by kernel_rfl) rfl (by kernel_rfl) (by kernel_rfl) ((Below.refl _ _).drew) rfl ?_
              intro KP RP TP hKP hTP hTP'
              simp only [pick, nth]
              cases kb
              all_goals
                go_wp2_with (first
                  | (apply SeqP.skip; rfl; simp only [Act.put, List.setIfInBounds_toArray, List.set_cons_zero, List.set_cons_succ])
                  | (apply SeqP.call; rfl; rfl; (intro w2 hw; have hw := hTP _ hw; ((obtain ⟨z0, z1, z2, z3, z4⟩ := FA _ hw; have z5 := FB _ hw)); go_simp; exact ⟨rfl, rfl⟩); (intro w2 hw; have hw := hTP _ hw; ((obtain ⟨z0, z1, z2, z3, z4⟩ := FA _ hw; have z5 := FB _ hw)); (first | fail)); simp only [Act.put, List.setIfInBounds_toArray, List.set_cons_zero, List.set_cons_succ])
                  | (apply SeqP.pure; rfl; (intro w2 hw; have hw := hTP _ hw; ((obtain ⟨z0, z1, z2, z3, z4⟩ := FA _ hw; have z5 := FB _ hw)); go_simp; with_reducible rfl); simp only [Act.put, List.setIfInBounds_toArray, List.set_cons_zero, List.set_cons_succ])
                  | (apply SeqP.split; rfl; rfl; all_goals (intro hc; simp only [hc]; try simp only [beq_iff_eq, decide_eq_true_eq, beq_eq_false_iff_ne, decide_eq_false_iff_not, bne_iff_ne, ne_eq, Bool.not_eq_true', Bool.not_eq_false', Int.not_le, Int.not_lt, bne_eq_false_iff_eq, Bool.or_eq_true, Bool.and_eq_true, Bool.or_eq_false_iff] at hc)))
                apply SeqP.nil
                refine hKP _ _ (hTP' _ ((Below.refl _ _).drew)) ?_
                clear hKP hTP hTP'
                go_wp2_with fail
                go_roundg (hd.length - (j + 1))
                case measure => have hkk := AA.out; omega
                case rel => exact ⟨j + 1, rfl, by omega, by rw [HN.out]; rfl, by go_num, Hd.out, Hdo.out⟩
            · obtain rfl : j = hd.length := by omega
              rw [List.take_length]
              obtain ⟨kb, hkb⟩ : ∃ e, knownB o hd = e := ⟨_, rfl⟩
              rw [hkb]
              obtain ⟨⟨p, er⟩, hv⟩ : ∃ z, (doM M o).2 = z := ⟨_, rfl⟩
              have HV := Lib.hid (And.intro hv hkb)
              have B0 := HM.out.blk 1 rfl
              dsimp only at B0
              clear hv hkb hlt hj HO
              go_wp2_with ((with_reducible refine at_list ?_); first | refine wpList_load_blk rfl 37 _ rfl _ rfl _ _ _ (B0) Try.underlying37 rfl order_info ?_)
              refine (do_val HV.out.1 g ss _ HM.out.1.2.2 HF.out).mono ?_
              rintro r w7 ⟨ss', sl, rfl, hm, hE, hg⟩
              have HM7 := Lib.hid (HM.out.do_ hg hm)
              have HE7 := Lib.hid hE
              have BX : Blk (w7.alloc (.cells #[.int .i64 0, .int .i64 0, .slice none 0 0] 32)) w7.heap.size 32 [.int .i64 0, .int .i64 0, .slice none 0 0] := Blk.new w7 _ _
              clear hm hg hE HM B0
              by_cases her : er = 0
              case neg =>
                have herb : (er != 0) = true := by simpa using her
                clear her
                go_wp2_with ((with_reducible refine at_list ?_); first | (refine wpList_store_own rfl 32 _ _ rfl _ (outv p sl) rfl rfl _ _ (BX) outcome_info rfl (outv_one _ _) ?_; intro w8 S8 g8))
                refine (lives_any _).mono ?_
                rintro r w9 ⟨rfl, hb⟩
                have hB := below_trans (HM7.out.keep (below_new g8)).1.1 hb (HM7.out.keep (below_new g8)).1.1.size
                go_wp2_with fail
                go_ret
                exact ⟨rfl, hB⟩
              have HER := Lib.hid her
              have herb : (er != 0) = false := by simpa using her
              clear her
              cases kb
              case true =>
                go_wp2_with ((with_reducible refine at_list ?_); first | (refine wpList_store_own rfl 32 _ _ rfl _ (outv p sl) rfl rfl _ _ (BX) outcome_info rfl (outv_one _ _) ?_; intro w8 S8 g8))
                refine (lives_any _).mono ?_
                rintro r w9 ⟨rfl, hb⟩
                have hB := below_trans (HM7.out.keep (below_new g8)).1.1 hb (HM7.out.keep (below_new g8)).1.1.size
                go_wp2_with fail
                go_ret
                exact ⟨rfl, hB⟩
              case false =>
                have hno := new_order (M := M) (o := o) (by rw [HV.out.1]; exact HER.out) (by rw [HD.out]; exact known_not HV.out.2)
                have hr := ordOk_in hno.1
                obtain ⟨S, hS⟩ := Int.eq_ofNat_of_zero_le hr.2.2.1
                have hS4 : S < 4 := by omega
                have hSi : (S : Int) < 4 := by omega
                have hSt : o.stream.toNat = S := by rw [hS]; rfl
                rw [hSt, HV.out.1] at hno
                dsimp only at hno
                have hst : StepO (foldS (M S)).1 (decS (foldS (M S)).1 o).1 p := by
                  rw [hno.2.1]
                  exact decS_step _ _
                have x1 := (HM7.out.blk 1 rfl).cell 1
                have lx := (HM7.out.blk 1 rfl).lt
                simp only [ordv, List.getElem?_cons_succ, List.getElem?_cons_zero] at x1
                dsimp only at lx
                rw [hS] at x1
                have HQ7 := Lib.hid (HM7.out.blk 0 rfl)
                have HN := Lib.hid hno
                have HST := Lib.hid hst
                have HSS := Lib.hid hS
                have HFM := Lib.hid (fine_do HF.out o)
                obtain ⟨M', hMM⟩ : ∃ z, (doM M o).1 = z := ⟨_, rfl⟩
                rw [hMM] at HN HFM HM7
                clear hno hr hS hSt hst hMM
                go_wp2_with ((with_reducible refine at_list ?_); first | ((refine wpList_store_own rfl 32 _ _ rfl _ (outv p sl) rfl rfl _ _ (BX) outcome_info rfl (outv_one _ _) ?_; intro w8 S8 g8); have y1 := (below_new g8).cell (p := ⟨w.heap.size, 1, none⟩) lx |>.trans x1) | (with_reducible refine cut_at 92 rfl ?_))
                refine Cut.go ?_
                have HLO := Lib.hid (show w.heap.size < w8.heap.size from ((HM7.out.add g8 S8).blk 2 rfl).lt)
                have HM8 := Lib.hid (HM7.out.add g8 S8)
                have HE8 := Lib.hid ((HE7.out.pure (below_new g8)).own' (own' := some w8.heap.size) (.inr ⟨_, rfl, Nat.le_refl _⟩))
                have VG := HM8.out.blk 1 rfl
                dsimp only at VG
                have BY : Blk (w8.alloc (.cells #[.int .i64 0, .bool false, .int .i64 0, .int .i64 0] 40)) w8.heap.size 40 [.int .i64 0, .bool false, .int .i64 0, .int .i64 0] := Blk.new w8 _ _
                have lq : q < w8.heap.size := VG.lt
                have l12 : w7.heap.size < w8.heap.size := S8.lt
                have OB9 : ∀ w9, (w8.alloc (.cells #[.int .i64 0, .bool false, .int .i64 0, .int .i64 0] 40)).grownBy w9 (some w8.heap.size) → Blk w9 w.heap.size 37 (ordv o) := fun w9 g9 => (HM8.out.keep (below_new g9)).blk 2 rfl
                obtain ⟨s0, hs0⟩ : ∃ z, (foldS (M S)).1 = z := ⟨_, rfl⟩
                have hwas : ∀ j, j < (stv s0).length → (wasC M 4)[S * 4 + j]? = (stv s0)[j]? := fun j hj => by rw [← hs0]; exact was_at M hS4 j hj
                rw [hs0] at HN HST
                obtain ⟨s1, hs1⟩ : ∃ z, (decS s0 o).1 = z := ⟨_, rfl⟩
                rw [hs1] at HN HST
                have HSM := Lib.hid hs0
                clear hs0 hs1 S8 g8 BX HM7 HE7 lx
                go_wp2_with ((with_reducible refine at_list ?_); first | (refine wpList_load_part rfl 40 _ rfl q (S * 4) rfl T57 (wasC M 4) (stv s0) VG hwas _ Try.underlying40 rfl state_info ?_) | ((refine wpList_store_own rfl 40 _ _ rfl _ (stv s0) rfl rfl _ _ (BY) state_info rfl (stv_one _) ?_; intro w9 S9 g9); have O9 := OB9 _ g9) | refine wpList_load_blk rfl 40 _ rfl _ rfl _ _ _ (S9) Try.underlying40 rfl state_info ?_ | refine wpList_load_blk rfl 37 _ rfl _ rfl _ _ _ (O9) Try.underlying37 rfl order_info ?_)
                have HM9 := Lib.hid (HM8.out.add g9 S9)
                have HE9 := Lib.hid (HE8.out.pure (below_new g9))
                have hD := decide_out s0 o w9
                unfold DecOut at hD
                rw [← HN.out.2.1] at hD
                have l14 : w8.heap.size < w9.heap.size := S9.lt
                clear HM8 HE8 VG BY OB9 hwas S9 g9 O9 y1
                refine hD.mono ?_
                rintro r w10 ⟨sl2, rfl, hE2, hb⟩
                have HM10 := Lib.hid (HM9.out.keep hb)
                have HE10 := Lib.hid (And.intro (HE9.out.pure hb) (hE2.newer (own := some w8.heap.size) (B' := 0) (fun q e => by cases e; exact l14) (Nat.zero_le _)))
                have BZ : Blk (w10.alloc (.cells #[.int .i64 0, .int .i64 0, .slice none 0 0] 32)) w10.heap.size 32 [.int .i64 0, .int .i64 0, .slice none 0 0] := Blk.new w10 _ _
                have l15 : w9.heap.size ≤ w10.heap.size := hb.size
                clear hb hE2 HM9 HE9 hD
                go_wp2_with ((with_reducible refine at_list ?_); first | (refine wpList_store_own rfl 32 _ _ rfl _ (outv p sl2) rfl rfl _ _ (BZ) outcome_info rfl (outv_one _ _) ?_; intro w11 S11 g11))
                have hb11 := below_new g11
                have HM11 := Lib.hid ((HM10.out.add g11 S11).perm (L' := [(w8.heap.size, 40, stv (stAt s0 s1 0)), (w10.heap.size, 32, outv p sl2), (w7.heap.size, 32, outv p sl), (q, T57, wasC M 4), (w.heap.size, 37, ordv o)]) (fun x hx => by
                  simp only [List.mem_cons, List.not_mem_nil, or_false] at hx ⊢
                  rcases hx with h | h | h | h | h <;> simp [h, stAt]))
                have HE11 := Lib.hid (And.intro (HE10.out.1.pure hb11) (HE10.out.2.pure hb11))
                have HNE := Lib.hid (show ∀ x ∈ [(w10.heap.size, 32, outv p sl2), (w7.heap.size, 32, outv p sl), (q, T57, wasC M 4), (w.heap.size, 37, ordv o)], x.1 ≠ w8.heap.size from fun x hx => by
                  have l0 := (HM11.out.blk 4 rfl).lt
                  have hlo := HLO.out
                  simp only [List.mem_cons, List.not_mem_nil, or_false] at hx
                  rcases hx with rfl | rfl | rfl | rfl
                  · dsimp only; omega
                  · dsimp only; omega
                  · dsimp only; omega
                  · dsimp only; omega)
                have hlen := HE11.out.1.len
                have z2 := (HM11.out.blk 2 rfl).cell 2
                simp only [outv, List.getElem?_cons_succ, List.getElem?_cons_zero] at z2
                have n1 : p.2.2.length ≤ 1 := by
                  rcases HST.out with ⟨h, _⟩ | ⟨_, _, h, _⟩
                  · rw [h]; simp
                  · rw [h]; simp
                clear HM10 HE10 BZ S11 g11 hb11
                go_wp2_with fail
                go_loopg [16] p.2.2.length (fun k i wr => ∃ (j : Nat), k = p.2.2.length - j ∧ j ≤ p.2.2.length ∧ i = .int .i64 j ∧ DI w wr g ss' M' [(w8.heap.size, 40, stv (stAt s0 s1 j)), (w10.heap.size, 32, outv p sl2), (w7.heap.size, 32, outv p sl), (q, T57, wasC M 4), (w.heap.size, 37, ordv o)] ∧ EvAt wr 0 (some w8.heap.size) sl p.2.2 ∧ EvAt wr 0 (some w8.heap.size) sl2 p.2.2)
                case atStart => exact ⟨0, rfl, by omega, rfl, HM11.out, ⟨HE11.out.1.low, HE11.out.2⟩⟩
                case round =>
                  clear HM11 HE11 z2 hlen
                  obtain ⟨j, hk, hj, rfl, hM, hE1, hE2⟩ := hrel
                  have AA : Aside (gk = p.2.2.length - j) := hk
                  have HM := Lib.hid hM
                  have HE := Lib.hid (And.intro hE1 hE2)
                  have hlen := hE1.len
                  have z2 := (HM.out.blk 2 rfl).cell 2
                  have l12' := (HM.out.blk 2 rfl).lt
                  simp only [outv, List.getElem?_cons_succ, List.getElem?_cons_zero] at z2
                  dsimp only at l12'
                  rw [hlen] at z2
                  clear hk hM hE1 hE2 hlen
                  by_cases hlt : j < p.2.2.length
                  · rcases HST.out with ⟨h, _⟩ | ⟨k, a, hka, hs1, hq5⟩
                    · rw [h] at hlt
                      simp at hlt
                    · obtain rfl : j = 0 := by omega
                      rcases HE.out.1 with ⟨h, _⟩ | ⟨ge, k', a', rfl, hka', _, gl, gne, e0, e1, _⟩
                      · rw [h] at hka
                        cases hka
                      · have hkk : k' = k ∧ a' = a := by
                          rw [hka] at hka'
                          cases hka'
                          exact ⟨rfl, rfl⟩
                        obtain ⟨rfl, rfl⟩ := hkk
                        have VG : Blk wr w8.heap.size 40 (stv s0) := HM.out.blk 0 rfl
                        have t0 := VG.cell 0
                        have t1 := VG.cell 1
                        have t2 := VG.cell 2
                        have t3 := VG.cell 3
                        simp only [stv, List.getElem?_cons_succ, List.getElem?_cons_zero] at t0 t1 t2 t3
                        have hge : ge ≠ w8.heap.size := fun e => gne (by rw [e])
                        have HS1 := Lib.hid hs1
                        have FF : ∀ w', wr.grownBy w' (some w8.heap.size) → w'.cell? ⟨w7.heap.size, 2, none⟩ = some (.slice (some ⟨ge, 0, none⟩) p.2.2.length 1) ∧ w'.cell? ⟨ge, 0, none⟩ = some (.int .i64 k') ∧ w'.cell? ⟨ge, 1, none⟩ = some (.int .i64 a') := fun w' hw =>
                          ⟨(hw.cell_far ⟨w7.heap.size, 2, none⟩ l12' (fun e => by have := Option.some.inj e; dsimp only at this; omega)).trans z2, (hw.cell_far ⟨ge, 0, none⟩ gl (fun e => hge (Option.some.inj e))).trans e0, (hw.cell_far ⟨ge, 1, none⟩ gl (fun e => hge (Option.some.inj e))).trans e1⟩
                        clear hka hka' gne e0 e1 hs1 hq5
                        go_wp2_with fail
                        refine wp_region_p ([(1, true), (2, true), (3, true), (4, true), (5, true), (0, false), (6, false), (7, false)]) (fun w' => wr.grownBy w' (some w8.heap.size)) (by kernel_rfl) rfl (by kernel_rfl) (by kernel_rfl) (grown_below (World.grownBy.refl _ _) (Below.refl _ _).drew) rfl ?_
                        intro KP RP TP hKP hTP hTP'
                        simp only [pick, nth]
                        go_wp2_with (first
                          | (apply SeqP.skip; rfl; simp only [Act.put, List.setIfInBounds_toArray, List.set_cons_zero, List.set_cons_succ])
                          | (apply SeqP.call; rfl; rfl; (intro w2 hw; have hw := hTP _ hw; ((obtain ⟨z2, e0, e1⟩ := FF _ hw)); go_simp; exact ⟨rfl, rfl⟩); (intro w2 hw; have hw := hTP _ hw; ((obtain ⟨z2, e0, e1⟩ := FF _ hw)); (first | fail)); simp only [Act.put, List.setIfInBounds_toArray, List.set_cons_zero, List.set_cons_succ])
                          | (apply SeqP.pure; rfl; (intro w2 hw; have hw := hTP _ hw; ((obtain ⟨z2, e0, e1⟩ := FF _ hw)); go_simp; with_reducible rfl); simp only [Act.put, List.setIfInBounds_toArray, List.set_cons_zero, List.set_cons_succ])
                          | (apply SeqP.split; rfl; rfl; all_goals (intro hc; simp only [hc]; try simp only [beq_iff_eq, decide_eq_true_eq, beq_eq_false_iff_ne, decide_eq_false_iff_not, bne_iff_ne, ne_eq, Bool.not_eq_true', Bool.not_eq_false', Int.not_le, Int.not_lt, bne_eq_false_iff_eq, Bool.or_eq_true, Bool.and_eq_true, Bool.or_eq_false_iff] at hc)))
                        apply SeqP.eff
                        · rfl
                        intro KE hKE
                        go_wp2_with fail
                        refine hKE _ _ (hTP' _ (grown_below (World.grownBy.refl _ _) (Below.refl _ _).drew)) ?_
                        clear hKE KE
                        apply SeqP.eff
                        · rfl
                        intro KE hKE
                        go_wp2_with fail
                        refine (apply_any s0.tag s0.sum s0.ver k' a' s0.closed _).mono ?_
                        rintro e w12 ⟨rfl, hb⟩
                        have hb12 : Below wr.heap.size wr w12 := (Below.refl _ _).drew.trans hb
                        refine hKE _ _ (hTP' _ (only_of_below hb12 _)) ?_
                        clear hKE KE hb
                        apply SeqP.eff
                        · rfl
                        intro KE hKE
                        have VG12 := VG.keep hb12
                        refine wp_store_own 40 _ _ rfl _ (stv (applyS s0 ⟨k', a'⟩)) rfl rfl _ _ VG12 state_info rfl (stv_one _) ?_
                        intro w13 B13 g13
                        have hg13 := (only_of_below hb12 (some w8.heap.size)).trans g13
                        refine hKE _ _ (hTP' _ hg13) ?_
                        clear hKE KE
                        apply SeqP.nil
                        refine hKP _ _ (hTP' _ (hg13)) ?_
                        clear hKP hTP hTP'
                        have HM13 := Lib.hid (((HM.out.keep hb12).turn g13 B13 (by decide) HNE.out).perm (L' := [(w8.heap.size, 40, stv (stAt s0 s1 1)), (w10.heap.size, 32, outv p sl2), (w7.heap.size, 32, outv p (some ⟨ge, 0, none⟩, 1, 1)), (q, T57, wasC M 4), (w.heap.size, 37, ordv o)]) (fun x hx => by
                          rw [show stAt s0 s1 1 = applyS s0 ⟨k', a'⟩ from HS1.out] at hx
                          exact hx))
                        have HE13 := Lib.hid (And.intro ((HE.out.1.pure hb12).keep g13 (fun g e => by cases e; exact .inr rfl)) ((HE.out.2.pure hb12).keep g13 (fun g e => by cases e; exact .inr rfl)))
                        clear FF VG VG12 B13 g13 hb12 hg13 HM HE t0 t1 t2 t3 z2 l12'
                        go_wp2_with fail
                        go_roundg (p.2.2.length - (0 + 1))
                        case measure => have hkk := AA.out; omega
                        case rel => exact ⟨1, rfl, by omega, by go_num, HM13.out, HE13.out.1, HE13.out.2⟩
                  · obtain rfl : j = p.2.2.length := by omega
                    rw [stAt_end HST.out] at HM
                    clear hj
                    obtain ⟨wb, rfl⟩ : ∃ z, z = wr := ⟨_, rfl⟩
                    go_wp2_with fail
                    clear z2 l12' hlt
                    go_loopg [17] 4 (fun k i wr => ∃ (K : Nat), k = 4 - K ∧ K ≤ 4 ∧ i = .int .i64 K ∧ DI w wr g ss' M' [(w8.heap.size, 40, stv s1), (w10.heap.size, 32, outv p sl2), (w7.heap.size, 32, outv p sl), (q, T57, wasC M 4), (w.heap.size, 37, ordv o)] ∧ EvAt wr 0 (some w8.heap.size) sl p.2.2 ∧ EvAt wr 0 (some w8.heap.size) sl2 p.2.2)
                    case atStart => exact ⟨0, rfl, by omega, rfl, HM.out, HE.out.1, HE.out.2⟩
                    case round =>
                      clear HM HE
                      obtain ⟨K, hk, hK, rfl, hM, hE1, hE2⟩ := hrel
                      have BB : Aside (gk = 4 - K) := hk
                      have HM := Lib.hid hM
                      have HE := Lib.hid (And.intro hE1 hE2)
                      clear hk hM hE1 hE2
                      by_cases hK4 : K < 4
                      · have hKi : (K : Int) < 4 := by omega
                        obtain ⟨st, hst⟩ : ∃ z, (foldS (M' K)).1 = z := ⟨_, rfl⟩
                        have hv : stateM M' K = (st, 0) := by
                          unfold stateM
                          rw [if_pos (by omega), show (K : Int).toNat = K from rfl, hst]
                        have HV := Lib.hid hv
                        have hcc : (K = S ∧ st = s1) ∨ (K ≠ S ∧ st = (foldS (M K)).1) := by
                          by_cases h : K = S
                          · refine .inl ⟨h, ?_⟩
                            rw [← hst, h]
                            exact HN.out.2.2.1
                          · refine .inr ⟨h, ?_⟩
                            rw [← hst, HN.out.2.2.2 K h]
                        have HCC := Lib.hid hcc
                        clear hv hst hcc
                        go_wp2_with fail
                        refine (state_val HV.out g ss' _ HM.out.1.2.2 HFM.out).mono ?_
                        rintro r w15 ⟨rfl, hb⟩
                        have HM15 := Lib.hid (HM.out.keep hb)
                        have HE15 := Lib.hid (And.intro (HE.out.1.pure hb) (HE.out.2.pure hb))
                        have BX : Blk (w15.alloc (.cells #[.int .i64 0, .bool false, .int .i64 0, .int .i64 0] 40)) w15.heap.size 40 [.int .i64 0, .bool false, .int .i64 0, .int .i64 0] := Blk.new w15 _ _
                        clear hb HM HE
                        go_wp2_with ((with_reducible refine at_list ?_); first | (refine wpList_store_own rfl 40 _ _ rfl _ (stv st) rfl rfl _ _ (BX) state_info rfl (stv_one _) ?_; intro w16 S16 g16))
                        have hb16 := below_new g16
                        have HM16 := Lib.hid (HM15.out.keep hb16)
                        have HE16 := Lib.hid (And.intro (HE15.out.1.pure hb16) (HE15.out.2.pure hb16))
                        have V14 := HM16.out.blk 0 rfl
                        have VQ := HM16.out.blk 3 rfl
                        have VO := HM16.out.blk 4 rfl
                        dsimp only at V14 VQ VO
                        have F18 : ∀ w', Below w16.heap.size w16 w' → w'.cell? ⟨w15.heap.size, 0, none⟩ = some (.int .i64 st.tag) ∧ w'.cell? ⟨w15.heap.size, 1, none⟩ = some (.bool st.closed) ∧ w'.cell? ⟨w15.heap.size, 2, none⟩ = some (.int .i64 st.sum) ∧ w'.cell? ⟨w15.heap.size, 3, none⟩ = some (.int .i64 st.ver) := fun w' hw =>
                          ⟨(S16.keep hw).cell 0, (S16.keep hw).cell 1, (S16.keep hw).cell 2, (S16.keep hw).cell 3⟩
                        have F14 : ∀ w', Below w16.heap.size w16 w' → w'.cell? ⟨w8.heap.size, 0, none⟩ = some (.int .i64 s1.tag) ∧ w'.cell? ⟨w8.heap.size, 1, none⟩ = some (.bool s1.closed) ∧ w'.cell? ⟨w8.heap.size, 2, none⟩ = some (.int .i64 s1.sum) ∧ w'.cell? ⟨w8.heap.size, 3, none⟩ = some (.int .i64 s1.ver) := fun w' hw =>
                          ⟨(V14.keep hw).cell 0, (V14.keep hw).cell 1, (V14.keep hw).cell 2, (V14.keep hw).cell 3⟩
                        obtain ⟨sw, hsw⟩ : ∃ z, (foldS (M K)).1 = z := ⟨_, rfl⟩
                        have FW : ∀ w', Below w16.heap.size w16 w' → w'.cell? ⟨q, K * 4, none⟩ = some (.int .i64 sw.tag) ∧ w'.cell? ⟨q, K * 4 + 1, none⟩ = some (.bool sw.closed) ∧ w'.cell? ⟨q, K * 4 + 2, none⟩ = some (.int .i64 sw.sum) ∧ w'.cell? ⟨q, K * 4 + 3, none⟩ = some (.int .i64 sw.ver) := fun w' hw => by
                          have h0 := was_at M hK4 0 (by omega)
                          have h1 := was_at M hK4 1 (by omega)
                          have h2 := was_at M hK4 2 (by omega)
                          have h3 := was_at M hK4 3 (by omega)
                          rw [hsw] at h0 h1 h2 h3
                          exact ⟨((VQ.keep hw).cell (K * 4)).trans h0, ((VQ.keep hw).cell (K * 4 + 1)).trans h1, ((VQ.keep hw).cell (K * 4 + 2)).trans h2, ((VQ.keep hw).cell (K * 4 + 3)).trans h3⟩
                        have FO : ∀ w', Below w16.heap.size w16 w' → w'.cell? ⟨w.heap.size, 1, none⟩ = some (.int .i64 S) := fun w' hw => by
                          have h := (VO.keep hw).cell 1
                          simp only [ordv, List.getElem?_cons_succ, List.getElem?_cons_zero] at h
                          rw [HSS.out] at h
                          exact h
                        have HSW := Lib.hid hsw
                        clear hsw V14 VQ VO BX g16 HM15 HE15 S16 hb16
                        rcases HCC.out with ⟨h1, h2⟩ | ⟨h1, h2⟩
                        case' inl =>
                          subst h1
                          subst h2
                          have e1 : ((K : Int) == (K : Int)) = true := by simp
                          have e2 : ((K : Int) != (K : Int)) = false := by simp
                          refine wp_region_p ([(0, true), (1, true), (2, true), (3, true), (4, true), (5, true), (6, true), (7, true), (8, true), (9, true), (10, true), (11, true), (12, true), (13, true), (14, true), (15, true), (16, true), (17, true), (18, true), (19, true), (20, true), (21, true), (22, true), (23, true), (24, true), (25, true)]) (fun w' => Below w16.heap.size w16 w') (by kernel_rfl) rfl (by kernel_rfl) (by kernel_rfl) ((Below.refl _ _).drew) rfl ?_
                          intro KP RP TP hKP hTP hTP'
                          simp only [pick, nth]
                          go_wp2_with (first
                            | (apply SeqP.skip; rfl; simp only [Act.put, List.setIfInBounds_toArray, List.set_cons_zero, List.set_cons_succ])
                            | (apply SeqP.aggbin; (with_reducible rfl); (with_reducible exact Try.eqGuardType40); rfl; rfl; rfl; (exact (fun w => neq_st w st)); simp only [Act.put, List.setIfInBounds_toArray, List.set_cons_zero, List.set_cons_succ])
                            | (apply SeqP.call; rfl; rfl; (intro w2 hw; have hw := hTP _ hw; ((obtain ⟨x0, x1, x2, x3⟩ := F18 _ hw; obtain ⟨y0, y1, y2, y3⟩ := F14 _ hw; obtain ⟨z0, z1, z2, z3⟩ := FW _ hw; have o1 := FO _ hw)); go_simp; exact ⟨rfl, rfl⟩); (intro w2 hw; have hw := hTP _ hw; ((obtain ⟨x0, x1, x2, x3⟩ := F18 _ hw; obtain ⟨y0, y1, y2, y3⟩ := F14 _ hw; obtain ⟨z0, z1, z2, z3⟩ := FW _ hw; have o1 := FO _ hw)); (first | fail)); simp only [Act.put, List.setIfInBounds_toArray, List.set_cons_zero, List.set_cons_succ])
                            | (apply SeqP.pure; rfl; (intro w2 hw; have hw := hTP _ hw; ((obtain ⟨x0, x1, x2, x3⟩ := F18 _ hw; obtain ⟨y0, y1, y2, y3⟩ := F14 _ hw; obtain ⟨z0, z1, z2, z3⟩ := FW _ hw; have o1 := FO _ hw)); go_simp; with_reducible rfl); simp only [Act.put, List.setIfInBounds_toArray, List.set_cons_zero, List.set_cons_succ])
                            | (apply SeqP.split; rfl; rfl; all_goals (intro hc; simp only [hc]; try simp only [beq_iff_eq, decide_eq_true_eq, beq_eq_false_iff_ne, decide_eq_false_iff_not, bne_iff_ne, ne_eq, Bool.not_eq_true', Bool.not_eq_false', Int.not_le, Int.not_lt, bne_eq_false_iff_eq, Bool.or_eq_true, Bool.and_eq_true, Bool.or_eq_false_iff] at hc)))
                        case' inr =>
                          have e1 : ((K : Int) == (S : Int)) = false := by rw [beq_eq_false_iff_ne]; omega
                          have e2 : ((K : Int) != (S : Int)) = true := by rw [bne_iff_ne]; omega
                          have h3 : st = sw := by rw [h2, HSW.out]
                          subst h3
                          clear h1 h2
                          refine wp_region_p ([(0, true), (1, true), (2, true), (3, true), (4, true), (5, true), (6, true), (7, true), (8, true), (9, true), (10, true), (11, true), (12, true), (13, true), (14, true), (15, true), (16, true), (17, true), (18, true), (19, true), (20, true), (21, true), (22, true), (23, true), (24, true), (25, true)]) (fun w' => Below w16.heap.size w16 w') (by kernel_rfl) rfl (by kernel_rfl) (by kernel_rfl) ((Below.refl _ _).drew) rfl ?_
                          intro KP RP TP hKP hTP hTP'
                          simp only [pick, nth]
                          go_wp2_with (first
                            | (apply SeqP.skip; rfl; simp only [Act.put, List.setIfInBounds_toArray, List.set_cons_zero, List.set_cons_succ])
                            | (apply SeqP.aggbin; (with_reducible rfl); (with_reducible exact Try.eqGuardType40); rfl; rfl; rfl; (exact (fun w => neq_st w st)); simp only [Act.put, List.setIfInBounds_toArray, List.set_cons_zero, List.set_cons_succ])
                            | (apply SeqP.call; rfl; rfl; (intro w2 hw; have hw := hTP _ hw; ((obtain ⟨x0, x1, x2, x3⟩ := F18 _ hw; obtain ⟨y0, y1, y2, y3⟩ := F14 _ hw; obtain ⟨z0, z1, z2, z3⟩ := FW _ hw; have o1 := FO _ hw)); go_simp; exact ⟨rfl, rfl⟩); (intro w2 hw; have hw := hTP _ hw; ((obtain ⟨x0, x1, x2, x3⟩ := F18 _ hw; obtain ⟨y0, y1, y2, y3⟩ := F14 _ hw; obtain ⟨z0, z1, z2, z3⟩ := FW _ hw; have o1 := FO _ hw)); (first | fail)); simp only [Act.put, List.setIfInBounds_toArray, List.set_cons_zero, List.set_cons_succ])
                            | (apply SeqP.pure; rfl; (intro w2 hw; have hw := hTP _ hw; ((obtain ⟨x0, x1, x2, x3⟩ := F18 _ hw; obtain ⟨y0, y1, y2, y3⟩ := F14 _ hw; obtain ⟨z0, z1, z2, z3⟩ := FW _ hw; have o1 := FO _ hw)); go_simp; with_reducible rfl); simp only [Act.put, List.setIfInBounds_toArray, List.set_cons_zero, List.set_cons_succ])
                            | (apply SeqP.split; rfl; rfl; all_goals (intro hc; simp only [hc]; try simp only [beq_iff_eq, decide_eq_true_eq, beq_eq_false_iff_ne, decide_eq_false_iff_not, bne_iff_ne, ne_eq, Bool.not_eq_true', Bool.not_eq_false', Int.not_le, Int.not_lt, bne_eq_false_iff_eq, Bool.or_eq_true, Bool.and_eq_true, Bool.or_eq_false_iff] at hc)))
                        all_goals
                          apply SeqP.nil
                          refine hKP _ _ (hTP' _ ((Below.refl _ _).drew)) ?_
                          clear hKP hTP hTP'
                          have hd := (Below.refl w16.heap.size w16).drew
                          have HM17 := Lib.hid (HM16.out.keep hd)
                          have HE17 := Lib.hid (And.intro (HE16.out.1.pure hd) (HE16.out.2.pure hd))
                          clear hd HM16 HE16 F18 F14 FW FO e1 e2
                          go_wp2_with fail
                          go_roundg (4 - (K + 1))
                          case measure => have hkk := BB.out; omega
                          case rel => exact ⟨K + 1, rfl, by omega, by go_num, HM17.out, HE17.out.1, HE17.out.2⟩
                      · obtain rfl : K = 4 := by omega
                        have P1 := HM.out.blk 2 rfl
                        have P2 := HM.out.blk 1 rfl
                        dsimp only at P1 P2
                        go_wp2_with ((with_reducible refine at_list ?_); first | refine wpList_load_blk rfl 32 _ rfl _ rfl _ _ _ (P1) Try.underlying32 rfl outcome_info ?_ | refine wpList_load_blk rfl 32 _ rfl _ rfl _ _ _ (P2) Try.underlying32 rfl outcome_info ?_)
                        refine (same_out p sl sl2 _ HE.out.1.read HE.out.2.read).mono ?_
                        rintro r w20 ⟨rfl, hb⟩
                        have hB20 := below_trans HM.out.1.1 hb HM.out.1.1.size
                        have hz20 := hB20.size
                        clear hb HM HE P1 P2
                        go_wp2_with fail
                        refine (lives_any _).mono ?_
                        rintro r w21 ⟨rfl, hb⟩
                        have hB21 := below_trans hB20 hb hz20
                        go_wp2_with fail
                        go_ret
                        exact ⟨rfl, hB21⟩
end Go.Proofs.Ytlineikeafepcaa
