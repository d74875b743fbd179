/-
  The walk over the statement ModelApart.
-/
import Derived.Test.YtlineikeafepcaaMdlLaw
import Derived.Test.YtlineikeafepcaaMdlOrd
import Derived.Test.YtlineikeafepcaaMdlLivesW
set_option linter.unusedSimpArgs false
set_option linter.unusedVariables false
set_option maxRecDepth 100000
namespace Go.Proofs.Ytlineikeafepcaa
open Go Go.RowKit Go.Sq Go.Wd Go.Arch

/-- A model in memory of the call's own. -/
def MI (w0 w : World) (g : Nat) (ss : Nat → SlcE) (M : Logs) : Prop := Below w0.heap.size w0 w ∧ w0.heap.size ≤ g ∧ MdlAt w g ss M
/-- And another one. -/
def MI2 (w0 w : World) (g : Nat) (ss : Nat → SlcE) (M : Logs) (g2 : Nat) (ss2 : Nat → SlcE) (M2 : Logs) : Prop := MI w0 w g ss M ∧ g < g2 ∧ MdlAt w g2 ss2 M2
section
variable {w0 w w1 : World} {g g2 : Nat} {ss ss' ss2 : Nat → SlcE} {M M' M2 : Logs}
theorem MI.step (h : MI w0 w g ss M) (hg : w.grownBy w1 (some g)) (hm : MdlAt w1 g ss' M') : MI w0 w1 g ss' M' :=
  ⟨h.1.trans (below_grown hg h.2.1 h.1.size), h.2.1, hm⟩
theorem MI.keep (h : MI w0 w g ss M) (hb : Below w.heap.size w w1) : MI w0 w1 g ss M := ⟨below_trans h.1 hb h.1.size, h.2.1, h.2.2.keep hb⟩
theorem MI.new (w0 : World) : MI w0 (w0.alloc (.cells #[.bool true, .slice none 0 0, .slice none 0 0, .slice none 0 0, .slice none 0 0] 52)) w0.heap.size noSl noLogs :=
  ⟨(Below.refl _ _).alloc (Nat.le_refl _) _, Nat.le_refl _, mdl_new w0⟩
theorem MI.two (h : MI w0 w g ss M) : MI2 w0 (w.alloc (.cells #[.bool true, .slice none 0 0, .slice none 0 0, .slice none 0 0, .slice none 0 0] 52)) g ss M w.heap.size noSl noLogs :=
  ⟨h.keep ((Below.refl _ _).alloc (Nat.le_refl _) _), h.2.2.lt, mdl_new w⟩
theorem MI2.step (h : MI2 w0 w g ss M g2 ss2 M2) (hg : w.grownBy w1 (some g2)) (hm : MdlAt w1 g2 ss' M') : MI2 w0 w1 g ss M g2 ss' M' :=
  ⟨⟨h.1.1.trans (below_grown hg (by have := h.1.2.1; have := h.2.1; omega) h.1.1.size), h.1.2.1, h.1.2.2.other h.2.2.1 (by simp [mcells]) hg (by have := h.2.1; omega)⟩, h.2.1, hm⟩
theorem MI2.keep (h : MI2 w0 w g ss M g2 ss2 M2) (hb : Below w.heap.size w w1) : MI2 w0 w1 g ss M g2 ss2 M2 := ⟨h.1.keep hb, h.2.1, h.2.2.keep hb⟩
end
theorem neq_st (w : World) (s : St) : (binOp .neq 40 (.agg (stv s).toArray) (.agg (stv s).toArray)).run Try.prog w = .ok (.bool false) w := by
  have g0 := Try.underlying40
  simp [stv, go_sem]
theorem of_next_yes {s : Int} {l : List Ord} {j : Nat} {o : Ord} (h : l[j]? = some o) (hs : o.stream = s) : ofStream s (l.take (j + 1)) = ofStream s (l.take j) ++ [o] := by
  unfold ofStream
  rw [List.take_add_one, h, List.filter_append]
  simp [hs]
theorem of_next_no {s : Int} {l : List Ord} {j : Nat} {o : Ord} (h : l[j]? = some o) (hs : ¬ o.stream = s) : ofStream s (l.take (j + 1)) = ofStream s (l.take j) := by
  unfold ofStream
  rw [List.take_add_one, h, List.filter_append]
  simp [hs]

set_option maxHeartbeats 4000000 in
theorem modelApart_walk (l : List Ord) (A : Option Addr) (c : Nat) (w : World) (hl : Ords w w.heap.size A l) (hll : l.length ≤ 9223372036854775807) :
    Calls Try.prog 7 #[.slice A l.length c] w fun r w' => r = .returned (.bool true) ∧ Below w.heap.size w w' := by
  have HL := Lib.hid hl
  clear hl
  go_enter Try.func7, Try.ntmps7
  by_cases h60 : 60 < l.length
  case pos =>
    have h60b : (60 : Int) < (l.length : Int) := by omega
    go_wp2_with fail
    refine (lives_any _).mono ?_
    rintro r w1 ⟨rfl, hb⟩
    go_wp2_with fail
    go_ret
    exact ⟨rfl, hb⟩
  have h60b : ¬ (60 : Int) < (l.length : Int) := by omega
  go_wp2_with fail
  refine (new_any _).mono ?_
  rintro r w1 ⟨rfl, rfl⟩
  have HM := Lib.hid (MI.new w)
  generalize (w.alloc (.cells #[.bool true, .slice none 0 0, .slice none 0 0, .slice none 0 0, .slice none 0 0] 52)) = w1 at HM ⊢
  go_wp2_with fail
  go_loopg [4] l.length (fun q i wr => ∃ (j : Nat) (ss : Nat → SlcE), q = l.length - j ∧ j ≤ l.length ∧ i = .int .i64 j ∧ MI w wr w.heap.size ss (playM noLogs (l.take j)))
  case atStart => exact ⟨0, noSl, rfl, by omega, rfl, HM.out⟩
  case round =>
    clear HM
    obtain ⟨j, ss, hq, hj, rfl, hM⟩ := hrel
    have AA : Aside (gk = l.length - j) := hq
    have HM := Lib.hid hM
    clear hq hM
    by_cases hlt : j < l.length
    · obtain ⟨b1, o1, x, rfl, hx, hb1, FA⟩ := HL.out.at_ hlt
      obtain ⟨p0, p1, p2, p3, p4⟩ := FA _ HM.out.1
      clear FA
      go_wp2_with fail
      refine (do_any (playM noLogs (l.take j)) x w.heap.size ss wr HM.out.2.2 (fine_play fine_nil _)).mono ?_
      rintro r w2 ⟨ss', sl, rfl, hm, _, hg⟩
      have HM2 := Lib.hid (HM.out.step hg hm)
      clear hm hg HM p0 p1 p2 p3 p4
      go_wp2_with fail
      go_roundg (l.length - (j + 1))
      case measure => have hkk := AA.out; omega
      case rel => exact ⟨j + 1, ss', rfl, by omega, by go_num, by rw [play_next hx.out]; exact HM2.out⟩
    · obtain rfl : j = l.length := by omega
      rw [List.take_length] at HM
      obtain ⟨w3, rfl⟩ : ∃ z, z = wr := ⟨_, rfl⟩
      clear hlt hj
      go_wp2_with fail
      go_loopg [5] 4 (fun q i wr => ∃ (S : Nat), q = 4 - S ∧ S ≤ 4 ∧ i = .int .i64 S ∧ MI w wr w.heap.size ss (playM noLogs l))
      case atStart => exact ⟨0, rfl, by omega, rfl, HM.out⟩
      case round =>
        clear HM
        obtain ⟨S, hq, hS, rfl, hM⟩ := hrel
        have BB : Aside (gk = 4 - S) := hq
        have HM := Lib.hid hM
        clear hq hM
        by_cases hlt : S < 4
        · have hlti : (S : Int) < 4 := by omega
          go_wp2_with fail
          refine (new_any _).mono ?_
          rintro r w4 ⟨rfl, rfl⟩
          have HN := Lib.hid (HM.out.two)
          obtain ⟨g2, hg2⟩ : ∃ z, wr.heap.size = z := ⟨_, rfl⟩
          rw [hg2] at HN ⊢
          generalize (wr.alloc (.cells #[.bool true, .slice none 0 0, .slice none 0 0, .slice none 0 0, .slice none 0 0] 52)) = w4 at HN ⊢
          clear hg2 HM
          go_wp2_with fail
          go_loopg [7] l.length (fun q i wr => ∃ (j : Nat) (ss2 : Nat → SlcE), q = l.length - j ∧ j ≤ l.length ∧ i = .int .i64 j ∧ MI2 w wr w.heap.size ss (playM noLogs l) g2 ss2 (playM noLogs (ofStream S (l.take j))))
          case atStart => exact ⟨0, noSl, rfl, by omega, rfl, HN.out⟩
          case round =>
            clear HN
            obtain ⟨j, ss2, hq, hj, rfl, hM⟩ := hrel
            have AA : Aside (gk = l.length - j) := hq
            have HM := Lib.hid hM
            clear hq hM
            by_cases hlj : j < l.length
            · obtain ⟨b1, o1, x, rfl, hx, hb1, FA⟩ := HL.out.at_ hlj
              obtain ⟨p0, p1, p2, p3, p4⟩ := FA _ HM.out.1.1
              clear FA
              by_cases hxs : x.stream = (S : Int)
              · have hxb : (x.stream == (S : Int)) = true := by simpa using hxs
                have HX := Lib.hid (of_next_yes hx.out hxs)
                clear hxs
                go_wp2_with fail
                refine (do_any (playM noLogs (ofStream S (l.take j))) x g2 ss2 _ HM.out.2.2 (fine_play fine_nil _)).mono ?_
                rintro r w5 ⟨ss', sl, rfl, hm, _, hg⟩
                have HM2 := Lib.hid (HM.out.step hg hm)
                clear hm hg HM p0 p1 p2 p3 p4
                go_wp2_with fail
                go_roundg (l.length - (j + 1))
                case measure => have hkk := AA.out; omega
                case rel => exact ⟨j + 1, ss', rfl, by omega, by go_num, by rw [HX.out, play_snoc]; exact HM2.out⟩
              · have hxb : (x.stream == (S : Int)) = false := by simpa using hxs
                have HX := Lib.hid (of_next_no hx.out hxs)
                clear hxs
                go_wp2_with fail
                go_roundg (l.length - (j + 1))
                case measure => have hkk := AA.out; omega
                case rel => exact ⟨j + 1, ss2, rfl, by omega, by go_num, by rw [HX.out]; exact HM.out⟩
            · obtain rfl : j = l.length := by omega
              rw [List.take_length] at HM
              obtain ⟨sg, hsg⟩ : ∃ z, (foldS (playM noLogs l S)).1 = z := ⟨_, rfl⟩
              have v1 : stateM (playM noLogs l) S = (sg, 0) := by
                unfold stateM
                rw [if_pos (by omega), show (S : Int).toNat = S from rfl, hsg]
              have hap := play_apart S l noLogs
              have v2 : stateM (playM noLogs (ofStream S l)) S = (sg, 0) := by
                unfold stateM
                rw [if_pos (by omega), show (S : Int).toNat = S from rfl, ← hap, hsg]
              have v3 : ordersM (playM noLogs (ofStream S l)) S = ordersM (playM noLogs l) S := by
                unfold ordersM
                rw [show (S : Int).toNat = S from rfl, hap]
              have HV := Lib.hid (And.intro v1 (And.intro v2 v3))
              clear v1 v2 v3 hap hsg hlj hj
              go_wp2_with fail
              refine (state_val HV.out.1 _ ss _ HM.out.1.2.2 (fine_play fine_nil _)).mono ?_
              rintro r w6 ⟨rfl, hb⟩
              have HM6 := Lib.hid (HM.out.keep hb)
              have hz6 := HM6.out.1.1.size
              have BX : Blk (w6.alloc (.cells #[.int .i64 0, .bool false, .int .i64 0, .int .i64 0] 40)) w6.heap.size 40 [.int .i64 0, .bool false, .int .i64 0, .int .i64 0] := Blk.new w6 _ _
              clear hb HM
              go_wp2_with ((with_reducible refine at_list ?_); first | (refine wpList_store_own rfl 40 _ _ rfl _ (stv sg) rfl rfl _ _ (BX) state_info rfl (stv_one _) ?_; intro w7 S7 g7))
              have hb7 := below_new g7
              have HM7 := Lib.hid (HM6.out.keep hb7)
              clear BX g7 hb7 HM6 hz6
              refine (state_val HV.out.2.1 _ _ w7 HM7.out.2.2 (fine_play fine_nil _)).mono ?_
              rintro r w8 ⟨rfl, hb⟩
              have HM8 := Lib.hid (HM7.out.keep hb)
              have S8 := S7.keep hb
              have BY : Blk (w8.alloc (.cells #[.int .i64 0, .bool false, .int .i64 0, .int .i64 0] 40)) w8.heap.size 40 [.int .i64 0, .bool false, .int .i64 0, .int .i64 0] := Blk.new w8 _ _
              clear hb HM7 S7
              go_wp2_with ((with_reducible refine at_list ?_); first | ((refine wpList_store_own rfl 40 _ _ rfl _ (stv sg) rfl rfl _ _ (BY) state_info rfl (stv_one _) ?_; intro w9 S9 g9); have S9' := S8.keep (below_new g9)) | refine wpList_load_blk_g 40 _ rfl rfl _ rfl _ _ _ (S9') Try.underlying40 rfl state_info ?_ | refine wpList_load_blk_g 40 _ rfl rfl _ rfl _ _ _ (S9) Try.underlying40 rfl state_info ?_ | (refine wpList_agg_g rfl rfl Try.eqGuardType40 rfl rfl (neq_st _ sg) ?_))
              have hb9 := below_new g9
              have HM9 := Lib.hid (HM8.out.keep hb9)
              clear BY g9 hb9 HM8 S8 S9 S9'
              refine (orders_any _ _ _ _ _ HM9.out.1.2.2 (fine_play fine_nil _)).mono ?_
              rintro r w10 ⟨v1, rfl, R1, hb⟩
              have HM10 := Lib.hid (HM9.out.keep hb)
              have HR := Lib.hid R1
              clear hb HM9 R1
              go_wp2_with fail
              refine (orders_any _ _ _ _ _ HM10.out.2.2 (fine_play fine_nil _)).mono ?_
              rintro r w11 ⟨v2, rfl, R2, hb⟩
              rw [HV.out.2.2] at R2
              have HM11 := Lib.hid (HM10.out.keep hb)
              obtain ⟨A1, c1, rfl, _, _, O1⟩ := (ORow.keep HR.out hb).form
              obtain ⟨A2, c2, rfl, k1, k2, O2⟩ := R2.form
              have HO := Lib.hid (And.intro O1 O2)
              clear hb HM10 R2 O1 O2 HR
              go_wp2_with fail
              refine (sameords_any _ _ _ _ _ _ HO.out.1 HO.out.2 (by omega)).mono ?_
              rintro r w12 ⟨rfl, hb⟩
              have HM12 := Lib.hid (HM11.out.keep hb)
              clear hb HM11
              go_wp2_with fail
              go_roundg (4 - (S + 1))
              case measure => have hkk := BB.out; omega
              case rel => exact ⟨S + 1, rfl, by omega, by go_num, HM12.out.1⟩
        · obtain rfl : S = 4 := by omega
          go_wp2_with fail
          refine (lives_any _).mono ?_
          rintro r w9 ⟨rfl, hb⟩
          have hB9 := below_trans HM.out.1 hb HM.out.1.size
          go_wp2_with fail
          go_ret
          exact ⟨rfl, hB9⟩
end Go.Proofs.Ytlineikeafepcaa
