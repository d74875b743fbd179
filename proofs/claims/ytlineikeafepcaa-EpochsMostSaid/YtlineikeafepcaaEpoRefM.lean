/-
  The walk over the document's Most.
-/
import Derived.Test.YtlineikeafepcaaEpoRef
set_option linter.unusedSimpArgs false
set_option linter.unusedVariables false
set_option maxRecDepth 100000
namespace Go.Proofs.Ytlineikeafepcaa
open Go Go.RowKit Go.Sq Go.Wd

theorem geC_succ {l : List Int} {j : Nat} {x v : Int} (hx : l[j]? = some x) : geC (l.take (j + 1)) v = geC (l.take j) v + (if v ≤ x then 1 else 0) := by
  unfold geC
  rw [List.take_add_one, hx, List.countP_append]
  simp [List.countP_cons]

theorem addr_inj {a b c d : Nat} (h : (some ⟨a, b, none⟩ : Option Addr) = some ⟨c, d, none⟩) : c = a ∧ d = b := by
  injection h with h
  injection h with h1 h2 _
  exact ⟨h1.symm, h2.symm⟩

set_option maxHeartbeats 2000000 in
theorem rmost_any (l : List Int) (A : Option Addr) (c : Nat) (n : Int) (w : World) (hl : Nums w w.heap.size A .i64 l) (hll : l.length ≤ 9223372036854775807) :
    Calls Try.prog 36 #[.slice A l.length c, .int .i64 n] w fun e w' => e = .returned (.tuple #[.int .i64 (mostE l n).1, .bool (mostE l n).2]) ∧ Below w.heap.size w w' := by
  have hw : Below w.heap.size w w := Below.refl _ _
  have hs := rsites_any n
  cases hs0 : sitesE n
  case false =>
    have hm := most_not (l := l) (n := n) (fun h => by rw [h.1] at hs0; cases hs0)
    rw [hs0] at hs
    rw [hm]
    clear hm hs0
    go_enter Try.func36, Try.ntmps36
    go_wp2_with fail
    refine (hs _).mono ?_
    rintro r w1 ⟨rfl, rfl⟩
    go_wp2_with fail
    go_ret2
    exact ⟨rfl, hw⟩
  case true =>
    rw [hs0] at hs
    by_cases hln : (l.length : Int) ≤ n
    case neg =>
      have hm := most_not (l := l) (n := n) (fun h => hln h.2.1)
      have hgt : n < (l.length : Int) := by omega
      rw [hm]
      clear hm hs0
      go_enter Try.func36, Try.ntmps36
      go_wp2_with fail
      refine (hs _).mono ?_
      rintro r w1 ⟨rfl, rfl⟩
      go_wp2_with fail
      go_ret2
      exact ⟨rfl, hw⟩
    case pos =>
      have hr := maj_range hs0
      have hmj := rmaj_any n
      rw [← mRun_all hs0 hln]
      obtain ⟨k, hk2⟩ := Int.eq_ofNat_of_zero_le (show 0 ≤ majE n by omega)
      have hkk2 : (majE n).toNat = k := by rw [hk2]; rfl
      rw [hkk2]
      rw [hk2] at hmj hr
      have HM := Lib.hid hmj
      have hl7 : l.length ≤ 7 := by omega
      have hk7 : k ≤ 7 := by omega
      have HL := Lib.hid hl
      have hgt : ¬ n < (l.length : Int) := by omega
      clear hmj hk2 hkk2 hl hs0 hr hll
      go_enter Try.func36, Try.ntmps36
      go_wp2_with fail
      refine (hs _).mono ?_
      rintro r w1 ⟨rfl, rfl⟩
      go_wp2_with fail
      obtain ⟨wo, rfl⟩ : ∃ z, z = w1 := ⟨_, rfl⟩
      go_loopg [6, 7, 8] l.length (fun q b t i wr => ∃ (j : Nat), q = l.length - j ∧ j ≤ l.length ∧ b = .int .i64 (mRun k l j).1 ∧ t = .bool (mRun k l j).2 ∧ i = .int .i64 j ∧ Below wo.heap.size wo wr)
      case atStart => exact ⟨0, rfl, by omega, rfl, rfl, rfl, hw⟩
      case round =>
        obtain ⟨j, hq, hj, rfl, rfl, rfl, hB⟩ := hrel
        have AA : Aside (gk = l.length - j) := hq
        clear hq
        by_cases hlt : j < l.length
        · obtain ⟨b1, o1, x, rfl, hx, FA⟩ := HL.out.at_ hlt
          have HN := Lib.hid (mRun_next (k := k) hx.out)
          clear hx hw
          go_wp2_with fail
          obtain ⟨wi, rfl⟩ : ∃ z, z = wr := ⟨_, rfl⟩
          go_loopg [9, 10] l.length (fun q m i wr => ∃ (h : Nat), q = l.length - h ∧ h ≤ l.length ∧ m = .int .i64 (geC (l.take h) x : Int) ∧ i = .int .i64 h ∧ Below wo.heap.size wo wr)
          case atStart => exact ⟨0, rfl, by omega, rfl, rfl, hB⟩
          case round =>
            clear hB
            obtain ⟨h, hq, hh, rfl, rfl, hB⟩ := hrel
            have BB : Aside (gk = l.length - h) := hq
            clear hq
            by_cases hht : h < l.length
            · obtain ⟨b2, o2, y, he, hy, FB⟩ := HL.out.at_ hht
              obtain ⟨rfl, rfl⟩ := addr_inj he
              have HG := Lib.hid (geC_succ (v := x) hy.out)
              have hg1 : geC (l.take h) x ≤ 20 := Nat.le_trans List.countP_le_length (by rw [List.length_take]; omega)
              obtain ⟨X, hX⟩ : ∃ X, geC (l.take h) x = X := ⟨_, rfl⟩
              rw [hX] at HG hg1 ⊢
              clear hX hy
              go_wp2_with fail
              refine wp_region_p ([(0, true), (1, true), (2, true), (3, true), (4, true), (5, true), (6, true), (7, true), (8, true)]) (fun w' => Below wo.heap.size wo w') (by kernel_rfl) rfl (by kernel_rfl) (by kernel_rfl) (hB.drew) rfl ?_
              intro KP RP TP hKP hTP hTP'
              simp only [pick, nth]
              go_wp2_with (first
                | (apply SeqP.skip; rfl; simp only [Act.put, List.setIfInBounds_toArray, List.set_cons_zero, List.set_cons_succ])
                | (apply SeqP.call; rfl; rfl; (intro w2 hw; have hw := hTP _ hw; ((have q0 := FA _ hw; have q1 := FB _ hw)); go_simp; exact ⟨rfl, rfl⟩); (intro w2 hw; have hw := hTP _ hw; ((have q0 := FA _ hw; have q1 := FB _ hw)); (first | fail)); simp only [Act.put, List.setIfInBounds_toArray, List.set_cons_zero, List.set_cons_succ])
                | (apply SeqP.pure; rfl; (intro w2 hw; have hw := hTP _ hw; ((have q0 := FA _ hw; have q1 := FB _ hw)); go_simp; with_reducible rfl); simp only [Act.put, List.setIfInBounds_toArray, List.set_cons_zero, List.set_cons_succ])
                | (apply SeqP.split; rfl; rfl; all_goals (intro hc; simp only [hc]; try simp only [beq_iff_eq, decide_eq_true_eq, beq_eq_false_iff_ne, decide_eq_false_iff_not, bne_iff_ne, ne_eq, Bool.not_eq_true', Bool.not_eq_false', Int.not_le, Int.not_lt, bne_eq_false_iff_eq, Bool.or_eq_true, Bool.and_eq_true, Bool.or_eq_false_iff] at hc)))
              apply SeqP.nil
              refine hKP _ _ (hTP' _ (hB.drew)) ?_
              clear hKP hTP hTP'
              clear FB
              by_cases hxy : x ≤ y
              · go_wp2_with fail
                go_roundg (l.length - (h + 1))
                case measure => have hkk := BB.out; omega
                case rel =>
                  refine ⟨h + 1, rfl, by omega, ?_, by go_num, hB.drew⟩
                  rw [HG.out, if_pos (by omega)]
                  simp
              · go_wp2_with fail
                go_roundg (l.length - (h + 1))
                case measure => have hkk := BB.out; omega
                case rel =>
                  refine ⟨h + 1, rfl, by omega, ?_, by go_num, hB.drew⟩
                  rw [HG.out, if_neg (by omega)]
                  simp
            · obtain rfl : h = l.length := by omega
              have hg1 : geC l x ≤ 20 := Nat.le_trans List.countP_le_length (by omega)
              rw [List.take_length]
              unfold mStep at HN
              obtain ⟨X, hX⟩ : ∃ X, geC l x = X := ⟨_, rfl⟩
              rw [hX] at HN hg1 ⊢
              obtain ⟨s, hs⟩ : ∃ s, mRun k l j = s := ⟨_, rfl⟩
              rw [hs] at HN ⊢
              obtain ⟨b, t⟩ := s
              dsimp only at HN ⊢
              clear hX hs hh hht hj
              have cu := FA _ hB
              have hcc : X < k ∨ (k ≤ X ∧ t = false) ∨ (k ≤ X ∧ t = true ∧ b < x) ∨ (k ≤ X ∧ t = true ∧ ¬ b < x) := by
                by_cases h1 : X < k
                · exact .inl h1
                · cases t
                  · exact .inr (.inl ⟨by omega, rfl⟩)
                  · by_cases h2 : b < x
                    · exact .inr (.inr (.inl ⟨by omega, rfl, h2⟩))
                    · exact .inr (.inr (.inr ⟨by omega, rfl, h2⟩))
              rcases hcc with c1 | ⟨c1, rfl⟩ | ⟨c1, rfl, c2⟩ | ⟨c1, rfl, c2⟩
              case' inl =>
                have HN2 := Lib.hid (HN.out.trans (if_neg (fun h => by omega)))
                have d1 : decide (k ≤ X) = false := decide_eq_false (by omega)
              case' inr.inl =>
                have HN2 := Lib.hid (HN.out.trans (if_pos ⟨c1, .inl rfl⟩))
                have d1 : decide (k ≤ X) = true := decide_eq_true (by omega)
              case' inr.inr.inl =>
                have HN2 := Lib.hid (HN.out.trans (if_pos ⟨c1, .inr c2⟩))
                have d1 : decide (k ≤ X) = true := decide_eq_true (by omega)
              case' inr.inr.inr =>
                have HN2 := Lib.hid (HN.out.trans (if_neg (fun h => by rcases h.2 with h | h; cases h; exact c2 h)))
                have d1 : decide (k ≤ X) = true := decide_eq_true (by omega)
              all_goals
                clear HN FA
                go_wp2_with fail
                refine (HM.out _).mono ?_
                rintro r w2 ⟨rfl, rfl⟩
                go_wp2_with fail
                go_roundg (l.length - (j + 1))
                case measure => have hkk := AA.out; omega
                case rel =>
                  refine ⟨j + 1, rfl, by omega, ?_, ?_, by go_num, hB⟩
                  · rw [HN2.out]
                  · rw [HN2.out]
        · obtain rfl : j = l.length := by omega
          go_wp2_with fail
          go_ret2
          exact ⟨rfl, hB⟩
end Go.Proofs.Ytlineikeafepcaa
