/-
  The walks over Equal, Prefix, Rising, and over chapter 15's SameLog.
-/
import Derived.Test.YtbicefilfhcgoaaEnts
import Derived.Deep.LoopGhost
set_option linter.unusedSimpArgs false
set_option linter.unusedVariables false
set_option maxRecDepth 100000
namespace Go.Proofs.Ytbicefilfhcgoaa
open Go.RowKit Go.Sq Go.Wd

set_option maxHeartbeats 1000000 in
theorem equal_any (l m : List Ent) (A B : Option Addr) (c d : Nat) (w : World) (ha : Ents w w.heap.size A l) (hb : Ents w w.heap.size B m) (hl : l.length ≤ 9223372036854775807) (hm : m.length ≤ 9223372036854775807) :
    Calls Try.prog 56 #[.slice A l.length c, .slice B m.length d] w fun e w' => e = .returned (.bool (decide (l = m))) ∧ Below w.heap.size w w' := by
  have hw : Below w.heap.size w w := Below.refl _ _
  have H := Lib.hid (And.intro ha hb)
  clear ha hb
  by_cases hlm : l.length = m.length
  · have hmn : (l.length == m.length) = true := by simpa using hlm
    have HLM := Lib.hid hlm
    clear hlm
    have hlm1 : l.length ≤ m.length := by have := HLM.out; omega
    have hlm2 : m.length ≤ l.length := by have := HLM.out; omega
    go_enter Try.func56, Try.ntmps56
    go_wp2_with fail
    go_loopg [13] l.length (fun k i wr => ∃ j : Nat, k = l.length - j ∧ j ≤ l.length ∧ i = .int .i64 j ∧ Below w.heap.size w wr ∧ l.take j = m.take j)
    case atStart => exact ⟨0, rfl, by omega, rfl, hw, by simp⟩
    case round =>
      clear hw
      obtain ⟨j, hk, hj, rfl, hwr, ht⟩ := hrel
      have AA : Aside (gk = l.length - j ∧ l.take j = m.take j) := ⟨hk, ht⟩
      clear hk ht
      by_cases hlt : j < l.length
      · have hjm : j < m.length := by omega
        obtain ⟨b1, o1, x, rfl, hx, FA⟩ := H.out.1.at_ hlt
        obtain ⟨b2, o2, y, rfl, hy, FB⟩ := H.out.2.at_ hjm
        go_wp2_with fail
        refine wp_region_p ([(0, true), (1, true), (2, true), (3, true), (4, true), (5, true), (6, true), (7, true), (8, true)]) (fun w' => Below w.heap.size w w') (by kernel_rfl) rfl (by kernel_rfl) (by kernel_rfl) (hwr.drew) rfl ?_
        intro KP RP TP hKP hTP hTP'
        simp only [pick, nth]
        go_wp2_with (first
          | (apply SeqP.skip; rfl; simp only [Act.put, List.setIfInBounds_toArray, List.set_cons_zero, List.set_cons_succ])
          | (apply SeqP.aggbin; (with_reducible rfl); (with_reducible exact Try.eqGuardType44); rfl; rfl; rfl; (exact (fun w => neq_ent w x y)); simp only [Act.put, List.setIfInBounds_toArray, List.set_cons_zero, List.set_cons_succ])
          | (apply SeqP.call; rfl; rfl; (intro w2 hw; have hw := hTP _ hw; ((obtain ⟨p0, p1, p2, p3, p4, p5⟩ := FA _ hw; obtain ⟨q0, q1, q2, q3, q4, q5⟩ := FB _ hw)); go_simp; exact ⟨rfl, rfl⟩); (intro w2 hw; have hw := hTP _ hw; ((obtain ⟨p0, p1, p2, p3, p4, p5⟩ := FA _ hw; obtain ⟨q0, q1, q2, q3, q4, q5⟩ := FB _ hw)); (first | fail)); simp only [Act.put, List.setIfInBounds_toArray, List.set_cons_zero, List.set_cons_succ])
          | (apply SeqP.pure; rfl; (intro w2 hw; have hw := hTP _ hw; ((obtain ⟨p0, p1, p2, p3, p4, p5⟩ := FA _ hw; obtain ⟨q0, q1, q2, q3, q4, q5⟩ := FB _ hw)); go_simp; with_reducible rfl); simp only [Act.put, List.setIfInBounds_toArray, List.set_cons_zero, List.set_cons_succ])
          | (apply SeqP.split; rfl; rfl; all_goals (intro hc; simp only [hc]; try simp only [beq_iff_eq, decide_eq_true_eq, beq_eq_false_iff_ne, decide_eq_false_iff_not, bne_iff_ne, ne_eq, Bool.not_eq_true', Bool.not_eq_false', Int.not_le, Int.not_lt, bne_eq_false_iff_eq, Bool.or_eq_true, Bool.and_eq_true, Bool.or_eq_false_iff] at hc)))
        apply SeqP.nil
        refine hKP _ _ (hTP' _ hwr.drew) ?_
        clear hKP hTP hTP' FA FB
        go_wp2_with fail
        · go_ret
          have hne : x ≠ y := by assumption
          exact ⟨ret_bool (by have := unlike_at hx.out hy.out hne; simp [this]), hwr.drew⟩
        · go_roundg (l.length - (j + 1))
          case measure => have hkk := AA.out.1; omega
          case rel =>
            have hne : ¬ x ≠ y := by assumption
            obtain rfl : x = y := by simpa using hne
            exact ⟨j + 1, rfl, by omega, by go_num, hwr.drew, take_more AA.out.2 hx.out hy.out⟩
      · have hjN : j = l.length := by omega
        have heq : l = m := by
          have h := AA.out.2
          rw [hjN, List.take_length, HLM.out, List.take_length] at h
          exact h
        go_wp2_with fail
        go_ret
        exact ⟨ret_bool (by simp [heq]), hwr⟩
  · have hne : (l.length == m.length) = false := by simpa using hlm
    have hlm' : l ≠ m := fun e => hlm (by rw [e])
    go_enter Try.func56, Try.ntmps56
    go_wp2_with fail
    go_ret
    exact ⟨ret_bool (by simp [hlm']), hw⟩

theorem equal_at {n1 n2 : Nat} (l m : List Ent) (h1 : n1 = l.length) (h2 : n2 = m.length) (A B : Option Addr) (c d : Nat) (w : World) (ha : Ents w w.heap.size A l) (hb : Ents w w.heap.size B m) (hl : l.length ≤ 9223372036854775807) (hm : m.length ≤ 9223372036854775807) :
    Calls Try.prog 56 #[.slice A n1 c, .slice B n2 d] w fun e w' => e = .returned (.bool (decide (l = m))) ∧ Below w.heap.size w w' := by
  subst h1; subst h2
  exact equal_any l m A B c d w ha hb hl hm

theorem prefix_any (l m : List Ent) (A B : Option Addr) (c d : Nat) (w : World) (ha : Ents w w.heap.size A l) (hb : Ents w w.heap.size B m) (hl : l.length ≤ 9223372036854775807) (hm : m.length ≤ 9223372036854775807) (hd : m.length ≤ d) (hd2 : d ≤ 9223372036854775807) :
    Calls Try.prog 38 #[.slice A l.length c, .slice B m.length d] w fun e w' => e = .returned (.bool (decide (l <+: m))) ∧ Below w.heap.size w w' := by
  have H := Lib.hid (And.intro ha hb)
  clear ha hb
  by_cases hlm : l.length ≤ m.length
  · have hcap : l.length ≤ d := by omega
    have hlen : Hid (l.length = (m.take l.length).length) := Lib.hid (by rw [List.length_take]; omega)
    go_enter Try.func38, Try.ntmps38
    go_wp2_with fail
    refine (equal_at l (m.take l.length) rfl hlen.out _ _ _ _ _ H.out.1 (H.out.2.take _) hl (by rw [← hlen.out]; exact hl)).mono ?_
    rintro e w1 ⟨rfl, hb⟩
    have hp : decide (l = m.take l.length) = decide (l <+: m) := by
      rw [Bool.eq_iff_iff, decide_eq_true_eq, decide_eq_true_eq, List.prefix_iff_eq_take]
    rw [hp]
    go_wp2_with fail
    go_ret
    exact ⟨rfl, hb⟩
  · have hp : decide (l <+: m) = false := by
      simp only [decide_eq_false_iff_not]
      intro h
      exact hlm h.length_le
    rw [hp]
    have hlm' : m.length < l.length := by omega
    go_enter Try.func38, Try.ntmps38
    go_wp2_with fail
    go_ret
    exact ⟨rfl, Below.refl _ _⟩

theorem nan_any (a : Int) (w : World) : Calls Try.prog 72 #[.int .i64 a] w fun e w' => e = .returned (.bool false) ∧ w' = w := by
  have h : (a != a) = false := by simp
  go_enter Try.func72, Try.ntmps72
  go_wp2
  go_ret
  exact ⟨rfl, rfl⟩

/-- Which of two numbers is the greater one. -/
def cmpL (a b : Int) : Int := if a < b then -1 else if b < a then 1 else 0

theorem compare_any (a b : Int) (w : World) : Calls Try.prog 71 #[.int .i64 a, .int .i64 b] w fun e w' => e = .returned (.int .i64 (cmpL a b)) ∧ w' = w := by
  rcases Int.lt_trichotomy a b with h | h | h
  · go_enter Try.func71, Try.ntmps71
    go_wp2_with (first | (go_at_call_of 72 (.int .i64 a); refine (nan_any _ _).mono ?_; rintro e w1 ⟨rfl, rfl⟩) | (go_at_call 72; refine (nan_any _ _).mono ?_; rintro e w1 ⟨rfl, rfl⟩))
    go_ret
    exact ⟨ret_int (by simp [cmpL, h]), rfl⟩
  · subst h
    go_enter Try.func71, Try.ntmps71
    go_wp2_with (go_at_call 72; refine (nan_any _ _).mono ?_; rintro e w1 ⟨rfl, rfl⟩)
    go_ret
    exact ⟨ret_int (by simp [cmpL]), rfl⟩
  · have h' : ¬ a < b := by omega
    go_enter Try.func71, Try.ntmps71
    go_wp2_with (go_at_call 72; refine (nan_any _ _).mono ?_; rintro e w1 ⟨rfl, rfl⟩)
    go_ret
    exact ⟨ret_int (by simp [cmpL, h, h']), rfl⟩

theorem epoch_any (e f : Ent) (w : World) : Calls Try.prog 69 #[.agg (vals e).toArray, .agg (vals f).toArray] w fun x w' => x = .returned (.int .i64 (cmpL e.1 f.1)) ∧ Below w.heap.size w w' := by
  unfold vals
  go_enter Try.func69, Try.ntmps69
  go_wp2_with (go_at_call 71; refine (compare_any _ _ _).mono ?_; rintro e w1 ⟨rfl, rfl⟩)
  go_ret
  exact ⟨rfl, by (repeat (first | with_reducible apply Below.drew | with_reducible refine Below.setCell ?_ (by first | exact Nat.le_refl _ | (simp; done) | (simp; omega) | omega) _ | with_reducible refine Below.alloc ?_ (by first | exact Nat.le_refl _ | (simp; done) | (simp; omega) | omega) _ | with_reducible exact Below.refl _ _ | with_reducible assumption))⟩

/-- Epochs do not fall. -/
def Rises (l : List Ent) : Prop := ∀ i x y, l[i]? = some x → l[i + 1]? = some y → x.1 ≤ y.1

def risesB : List Ent → Bool
  | a :: b :: l => decide (a.1 ≤ b.1) && risesB (b :: l)
  | _ => true

theorem rises_iff : ∀ (l : List Ent), risesB l = true ↔ Rises l
  | [] => by simp [risesB, Rises]
  | [a] => by simp [risesB, Rises]
  | a :: b :: l => by
    have ih := rises_iff (b :: l)
    simp only [risesB, Bool.and_eq_true, decide_eq_true_eq, ih]
    constructor
    · rintro ⟨h1, h2⟩ i x y hx hy
      cases i with
      | zero => simp at hx hy; subst hx; subst hy; exact h1
      | succ i => exact h2 i x y (by simpa using hx) (by simpa using hy)
    · intro h
      exact ⟨h 0 a b rfl rfl, fun i x y hx hy => h (i + 1) x y (by simpa using hx) (by simpa using hy)⟩

theorem rises_no {l : List Ent} {i : Nat} {x y : Ent} (hx : l[i]? = some x) (hy : l[i + 1]? = some y) (h : y.1 < x.1) : risesB l = false := by
  rw [Bool.eq_false_iff, ne_eq, rises_iff]
  intro hr
  have := hr i x y hx hy
  omega

theorem sorted_any (l : List Ent) (A : Option Addr) (c : Nat) (w : World) (ha : Ents w w.heap.size A l) (hl : l.length ≤ 9223372036854775807) :
    Calls Try.prog 68 #[.slice A l.length c, .func (.func 69) #[] #[]] w fun e w' => e = .returned (.bool (risesB l)) ∧ Below w.heap.size w w' := by
  have hw : Below w.heap.size w w := Below.refl _ _
  have H := Lib.hid ha
  clear ha
  by_cases h0 : l.length = 0
  · have hr : risesB l = true := by
      have : l = [] := List.eq_nil_of_length_eq_zero h0
      subst this; rfl
    rw [hr]
    have h0' : l.length ≤ 0 := by omega
    have h1 : ((l.length : Int) - 1) = -1 := by omega
    clear h0
    go_enter Try.func68, Try.ntmps68
    go_wp2_with fail
    refine wp_loop_rounds 1 ?_
    rw [rounds_succ]
    go_wp2_with fail
    go_ret
    exact ⟨rfl, hw⟩
  · obtain ⟨n, hn⟩ : ∃ n, l.length = n + 1 := ⟨l.length - 1, by omega⟩
    have HL := Lib.hid hn
    rw [hn]
    rw [hn] at hl
    clear hn h0
    go_enter Try.func68, Try.ntmps68
    go_wp2_with fail
    go_loopg [5] n (fun k i wr => ∃ j : Nat, k = j ∧ j ≤ n ∧ i = .int .i64 j ∧ Below w.heap.size w wr ∧ ∀ i x y, j ≤ i → l[i]? = some x → l[i + 1]? = some y → x.1 ≤ y.1)
    case atStart =>
      refine ⟨n, rfl, by omega, by go_num, hw, ?_⟩
      intro i x y hi hx hy
      have := get_lt hy
      have := HL.out
      omega
    case round =>
      clear hw
      obtain ⟨j, hk, hj, rfl, hwr, ht⟩ := hrel
      have AA : Aside (gk = j ∧ ∀ i x y, j ≤ i → l[i]? = some x → l[i + 1]? = some y → x.1 ≤ y.1) := ⟨hk, ht⟩
      clear hk ht
      cases j with
      | zero =>
        have hr : risesB l = true := (rises_iff l).2 fun i x y hx hy => AA.out.2 i x y (Nat.zero_le _) hx hy
        go_wp2_with fail
        go_ret
        exact ⟨ret_bool (by rw [hr]), hwr⟩
      | succ j =>
        obtain ⟨b1, o1, x, rfl, hx, FA⟩ := H.out.at_ (show j + 1 < l.length by rw [HL.out]; omega)
        obtain ⟨b2, o2, y, hab, hy, FB⟩ := H.out.at_ (show j < l.length by rw [HL.out]; omega)
        cases hab
        have hj1 : j < n := by omega
        have hj2 : j < n + 1 := by omega
        have i0 : (0 : Int) ≤ (j : Int) + 1 := by omega
        have i1 : (j : Int) + 1 < (n : Int) + 1 := by omega
        have i2 : (j : Int) < (n : Int) + 1 := by omega
        have hsub : IntKind.i64.wrap (j : Int) = j := IntWalk.i64_in _ (by omega)
        go_wp2_with fail
        refine wp_region_p ([(0, true), (1, true), (2, true), (3, true), (4, true), (5, true), (6, true), (7, true), (8, true), (9, true), (10, false), (11, true)]) (fun w' => Below w.heap.size w w') (by kernel_rfl) rfl (by kernel_rfl) (by kernel_rfl) (hwr.drew) rfl ?_
        intro KP RP TP hKP hTP hTP'
        simp only [pick, nth]
        go_wp2_with (first
          | (apply SeqP.skip; rfl; simp only [Act.put, List.setIfInBounds_toArray, List.set_cons_zero, List.set_cons_succ])
          | (apply SeqP.call; rfl; rfl; (intro w2 hw; have hw := hTP _ hw; ((obtain ⟨p0, p1, p2, p3, p4, p5⟩ := FA _ hw; obtain ⟨q0, q1, q2, q3, q4, q5⟩ := FB _ hw)); go_simp; exact ⟨rfl, rfl⟩); (intro w2 hw; have hw := hTP _ hw; ((obtain ⟨p0, p1, p2, p3, p4, p5⟩ := FA _ hw; obtain ⟨q0, q1, q2, q3, q4, q5⟩ := FB _ hw)); (first | fail)); simp only [Act.put, List.setIfInBounds_toArray, List.set_cons_zero, List.set_cons_succ])
          | (apply SeqP.pure; rfl; (intro w2 hw; have hw := hTP _ hw; ((obtain ⟨p0, p1, p2, p3, p4, p5⟩ := FA _ hw; obtain ⟨q0, q1, q2, q3, q4, q5⟩ := FB _ hw)); go_simp; with_reducible rfl); simp only [Act.put, List.setIfInBounds_toArray, List.set_cons_zero, List.set_cons_succ])
          | (apply SeqP.split; rfl; rfl; all_goals (intro hc; simp only [hc]; try simp only [beq_iff_eq, decide_eq_true_eq, beq_eq_false_iff_ne, decide_eq_false_iff_not, bne_iff_ne, ne_eq, Bool.not_eq_true', Bool.not_eq_false', Int.not_le, Int.not_lt, bne_eq_false_iff_eq, Bool.or_eq_true, Bool.and_eq_true, Bool.or_eq_false_iff] at hc)))
        apply SeqP.eff
        · rfl
        intro KE hKE
        go_wp2_with fail
        refine (epoch_any x y _).mono ?_
        rintro e w1 ⟨rfl, hb⟩
        have hw1 := below_trans hwr.drew hb hwr.size
        refine hKE _ _ (hTP' _ hw1) ?_
        clear hKE hb hwr FA FB
        by_cases hlt : x.1 < y.1
        · have hc : cmpL x.1 y.1 = -1 := by simp [cmpL, hlt]
          have hr := rises_no hy.out hx.out hlt
          rw [hc]
          clear hc
          go_wp2_with (first
            | (apply SeqP.skip; rfl; simp only [Act.put, List.setIfInBounds_toArray, List.set_cons_zero, List.set_cons_succ])
            | (apply SeqP.call; rfl; rfl; (intro w2 hw; have hw := hTP _ hw; (skip); go_simp; exact ⟨rfl, rfl⟩); (intro w2 hw; have hw := hTP _ hw; (skip); (first | fail)); simp only [Act.put, List.setIfInBounds_toArray, List.set_cons_zero, List.set_cons_succ])
            | (apply SeqP.pure; rfl; (intro w2 hw; have hw := hTP _ hw; (skip); go_simp; with_reducible rfl); simp only [Act.put, List.setIfInBounds_toArray, List.set_cons_zero, List.set_cons_succ])
            | (apply SeqP.split; rfl; rfl; all_goals (intro hc; simp only [hc]; try simp only [beq_iff_eq, decide_eq_true_eq, beq_eq_false_iff_ne, decide_eq_false_iff_not, bne_iff_ne, ne_eq, Bool.not_eq_true', Bool.not_eq_false', Int.not_le, Int.not_lt, bne_eq_false_iff_eq, Bool.or_eq_true, Bool.and_eq_true, Bool.or_eq_false_iff] at hc)))
          apply SeqP.nil
          refine hKP _ _ (hTP' _ hw1) ?_
          clear hKP hTP hTP'
          go_wp2_with fail
          go_ret
          exact ⟨ret_bool (by rw [hr]), hw1⟩
        · have hc : 0 ≤ cmpL x.1 y.1 := by unfold cmpL; rw [if_neg hlt]; split <;> omega
          generalize cmpL x.1 y.1 = z at hc
          go_wp2_with (first
            | (apply SeqP.skip; rfl; simp only [Act.put, List.setIfInBounds_toArray, List.set_cons_zero, List.set_cons_succ])
            | (apply SeqP.call; rfl; rfl; (intro w2 hw; have hw := hTP _ hw; (skip); go_simp; exact ⟨rfl, rfl⟩); (intro w2 hw; have hw := hTP _ hw; (skip); (first | fail)); simp only [Act.put, List.setIfInBounds_toArray, List.set_cons_zero, List.set_cons_succ])
            | (apply SeqP.pure; rfl; (intro w2 hw; have hw := hTP _ hw; (skip); go_simp; with_reducible rfl); simp only [Act.put, List.setIfInBounds_toArray, List.set_cons_zero, List.set_cons_succ])
            | (apply SeqP.split; rfl; rfl; all_goals (intro hc; simp only [hc]; try simp only [beq_iff_eq, decide_eq_true_eq, beq_eq_false_iff_ne, decide_eq_false_iff_not, bne_iff_ne, ne_eq, Bool.not_eq_true', Bool.not_eq_false', Int.not_le, Int.not_lt, bne_eq_false_iff_eq, Bool.or_eq_true, Bool.and_eq_true, Bool.or_eq_false_iff] at hc)))
          apply SeqP.nil
          refine hKP _ _ (hTP' _ hw1) ?_
          clear hKP hTP hTP'
          go_wp2_with fail
          go_roundg j
          case measure => have hkk := AA.out.1; omega
          case rel =>
            refine ⟨j, rfl, by omega, by go_num, hw1, ?_⟩
            intro i u v hi hu hv
            rcases Nat.lt_or_ge j i with h | h
            · exact AA.out.2 i u v (by omega) hu hv
            · obtain rfl : i = j := by omega
              have e1 := hy.out
              have e2 := hx.out
              rw [hu] at e1
              rw [hv] at e2
              cases e1
              cases e2
              omega

theorem rising_any (l : List Ent) (A : Option Addr) (c : Nat) (w : World) (ha : Ents w w.heap.size A l) (hl : l.length ≤ 9223372036854775807) :
    Calls Try.prog 61 #[.slice A l.length c] w fun e w' => e = .returned (.bool (risesB l)) ∧ Below w.heap.size w w' := by
  go_enter Try.func61, Try.ntmps61
  go_wp2_with fail
  refine (sorted_any l A c _ ha hl).mono ?_
  rintro e w1 ⟨rfl, hb⟩
  go_wp2_with fail
  go_ret
  exact ⟨rfl, hb⟩

set_option maxHeartbeats 1000000 in
theorem same_any (l m : List Ent) (A B : Option Addr) (c d : Nat) (w : World) (ha : Ents w w.heap.size A l) (hb : Ents w w.heap.size B m) (hl : l.length ≤ 9223372036854775807) (hm : m.length ≤ 9223372036854775807) :
    Calls Try.prog 23 #[.slice A l.length c, .slice B m.length d] w fun e w' => e = .returned (.bool (decide (l = m))) ∧ Below w.heap.size w w' := by
  have hw : Below w.heap.size w w := Below.refl _ _
  have H := Lib.hid (And.intro ha hb)
  clear ha hb
  by_cases hlm : l.length = m.length
  · have hmn : (l.length == m.length) = true := by simpa using hlm
    have HLM := Lib.hid hlm
    clear hlm
    have hlm1 : l.length ≤ m.length := by have := HLM.out; omega
    have hlm2 : m.length ≤ l.length := by have := HLM.out; omega
    go_enter Try.func23, Try.ntmps23
    go_wp2_with fail
    go_loopg [5] l.length (fun k i wr => ∃ j : Nat, k = l.length - j ∧ j ≤ l.length ∧ i = .int .i64 j ∧ Below w.heap.size w wr ∧ l.take j = m.take j)
    case atStart => exact ⟨0, rfl, by omega, rfl, hw, by simp⟩
    case round =>
      clear hw
      obtain ⟨j, hk, hj, rfl, hwr, ht⟩ := hrel
      have AA : Aside (gk = l.length - j ∧ l.take j = m.take j) := ⟨hk, ht⟩
      clear hk ht
      by_cases hlt : j < l.length
      · have hjm : j < m.length := by omega
        obtain ⟨b1, o1, x, rfl, hx, FA⟩ := H.out.1.at_ hlt
        obtain ⟨b2, o2, y, rfl, hy, FB⟩ := H.out.2.at_ hjm
        go_wp2_with fail
        refine wp_region_p ([(0, true), (1, true), (2, true), (3, true), (4, true), (5, true), (6, true), (7, true), (8, true)]) (fun w' => Below w.heap.size w w') (by kernel_rfl) rfl (by kernel_rfl) (by kernel_rfl) (hwr.drew) rfl ?_
        intro KP RP TP hKP hTP hTP'
        simp only [pick, nth]
        go_wp2_with (first
          | (apply SeqP.skip; rfl; simp only [Act.put, List.setIfInBounds_toArray, List.set_cons_zero, List.set_cons_succ])
          | (apply SeqP.aggbin; (with_reducible rfl); (with_reducible exact Try.eqGuardType44); rfl; rfl; rfl; (exact (fun w => neq_ent w x y)); simp only [Act.put, List.setIfInBounds_toArray, List.set_cons_zero, List.set_cons_succ])
          | (apply SeqP.call; rfl; rfl; (intro w2 hw; have hw := hTP _ hw; ((obtain ⟨p0, p1, p2, p3, p4, p5⟩ := FA _ hw; obtain ⟨q0, q1, q2, q3, q4, q5⟩ := FB _ hw)); go_simp; exact ⟨rfl, rfl⟩); (intro w2 hw; have hw := hTP _ hw; ((obtain ⟨p0, p1, p2, p3, p4, p5⟩ := FA _ hw; obtain ⟨q0, q1, q2, q3, q4, q5⟩ := FB _ hw)); (first | fail)); simp only [Act.put, List.setIfInBounds_toArray, List.set_cons_zero, List.set_cons_succ])
          | (apply SeqP.pure; rfl; (intro w2 hw; have hw := hTP _ hw; ((obtain ⟨p0, p1, p2, p3, p4, p5⟩ := FA _ hw; obtain ⟨q0, q1, q2, q3, q4, q5⟩ := FB _ hw)); go_simp; with_reducible rfl); simp only [Act.put, List.setIfInBounds_toArray, List.set_cons_zero, List.set_cons_succ])
          | (apply SeqP.split; rfl; rfl; all_goals (intro hc; simp only [hc]; try simp only [beq_iff_eq, decide_eq_true_eq, beq_eq_false_iff_ne, decide_eq_false_iff_not, bne_iff_ne, ne_eq, Bool.not_eq_true', Bool.not_eq_false', Int.not_le, Int.not_lt, bne_eq_false_iff_eq, Bool.or_eq_true, Bool.and_eq_true, Bool.or_eq_false_iff] at hc)))
        apply SeqP.nil
        refine hKP _ _ (hTP' _ hwr.drew) ?_
        clear hKP hTP hTP' FA FB
        go_wp2_with fail
        · go_ret
          have hne : x ≠ y := by assumption
          exact ⟨ret_bool (by have := unlike_at hx.out hy.out hne; simp [this]), hwr.drew⟩
        · go_roundg (l.length - (j + 1))
          case measure => have hkk := AA.out.1; omega
          case rel =>
            have hne : ¬ x ≠ y := by assumption
            obtain rfl : x = y := by simpa using hne
            exact ⟨j + 1, rfl, by omega, by go_num, hwr.drew, take_more AA.out.2 hx.out hy.out⟩
      · have hjN : j = l.length := by omega
        have heq : l = m := by
          have h := AA.out.2
          rw [hjN, List.take_length, HLM.out, List.take_length] at h
          exact h
        go_wp2_with fail
        go_ret
        exact ⟨ret_bool (by simp [heq]), hwr⟩
  · have hne : (l.length == m.length) = false := by simpa using hlm
    have hlm' : l ≠ m := fun e => hlm (by rw [e])
    go_enter Try.func23, Try.ntmps23
    go_wp2_with fail
    go_ret
    exact ⟨ret_bool (by simp [hlm']), hw⟩
end Go.Proofs.Ytbicefilfhcgoaa
