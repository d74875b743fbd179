/-
  The walk over the statement EpochsShared.
-/
import Derived.Test.YtlineikeafepcaaEpoWorks
import Derived.Test.YtlineikeafepcaaRowOps
import Derived.Deep.LoopGhost
set_option linter.unusedSimpArgs false
set_option linter.unusedVariables false
set_option maxRecDepth 100000
namespace Go.Proofs.Ytlineikeafepcaa
open Go Go.RowKit Go.Sq Go.Wd

/-- Two counts that are more than all meet. -/
theorem counts_meet (p q : Int → Bool) : ∀ (l m : List Int), l.length = m.length → (∀ (i : Nat) (x y : Int), l[i]? = some x → m[i]? = some y → ¬ (p x = true ∧ q y = true)) → l.countP p + m.countP q ≤ l.length
  | [], [], _, _ => by simp
  | [], y :: m, h, _ => by simp at h
  | x :: l, [], h, _ => by simp at h
  | x :: l, y :: m, h, hn => by
    have ih := counts_meet p q l m (by simpa using h) (fun i a b ha hb => hn (i + 1) a b (by simpa using ha) (by simpa using hb))
    have h0 := hn 0 x y rfl rfl
    simp only [List.countP_cons, List.length_cons]
    cases hp : p x <;> cases hq : q y <;> simp_all <;> omega
theorem most_at {m : Nat} (l : List Int) (hm : m = l.length) (A : Option Addr) (c : Nat) (n : Int) {v : Int × Bool} (hv : mostE l n = v) (w : World) (hl : Nums w w.heap.size A .i64 l) (hll : l.length ≤ 9223372036854775807) :
    Calls Try.prog 35 #[.slice A m c, .int .i64 n] w fun e w' => e = .returned (.tuple #[.int .i64 v.1, .bool v.2]) ∧ Below w.heap.size w w' := by
  subst hm; subst hv; exact most_any l A c n w hl hll
theorem nums_take {w : World} {B : Nat} {A : Option Addr} {k : IntKind} {l : List Int} (h : Nums w B A k l) (n : Nat) : Nums w B A k (l.take n) := fun h0 => by
  obtain ⟨b, off, ha, hb, hc⟩ := h (by rw [List.length_take] at h0; omega)
  refine ⟨b, off, ha, hb, fun i x hx => hc i x ?_⟩
  have hi := (List.getElem?_eq_some_iff.1 hx).1
  rw [List.length_take] at hi
  rwa [List.getElem?_take_of_lt (by omega)] at hx

set_option maxHeartbeats 2000000 in
theorem epochsShared_walk (a b : List Int) (ha : a.length = 7) (hb : b.length = 7) (n : Int) (w : World) : Calls Try.prog 13 #[.agg (a.map (Value.int .i64)).toArray, .agg (b.map (Value.int .i64)).toArray, .int .i64 n] w fun r w' => r = .returned (.bool true) ∧ Below w.heap.size w w' := by
  obtain ⟨a0, a1, a2, a3, a4, a5, a6, rfl⟩ : ∃ a0 a1 a2 a3 a4 a5 a6, a = [a0, a1, a2, a3, a4, a5, a6] := by
    match a, ha with
    | [a0, a1, a2, a3, a4, a5, a6], _ => exact ⟨_, _, _, _, _, _, _, rfl⟩
  obtain ⟨b0, b1, b2, b3, b4, b5, b6, rfl⟩ : ∃ a0 a1 a2 a3 a4 a5 a6, b = [a0, a1, a2, a3, a4, a5, a6] := by
    match b, hb with
    | [a0, a1, a2, a3, a4, a5, a6], _ => exact ⟨_, _, _, _, _, _, _, rfl⟩
  obtain ⟨la, hla⟩ : ∃ la : List Int, la = [a0, a1, a2, a3, a4, a5, a6] := ⟨_, rfl⟩
  obtain ⟨lb, hlb⟩ : ∃ lb : List Int, lb = [b0, b1, b2, b3, b4, b5, b6] := ⟨_, rfl⟩
  have hW : Below w.heap.size w ((w.alloc (.cells #[.int .i64 a0, .int .i64 a1, .int .i64 a2, .int .i64 a3, .int .i64 a4, .int .i64 a5, .int .i64 a6] 79)).alloc (.cells #[.int .i64 b0, .int .i64 b1, .int .i64 b2, .int .i64 b3, .int .i64 b4, .int .i64 b5, .int .i64 b6] 79)) := ((Below.refl _ _).alloc (Nat.le_refl _) _).alloc (by simp) _
  have BA : Blk ((w.alloc (.cells #[.int .i64 a0, .int .i64 a1, .int .i64 a2, .int .i64 a3, .int .i64 a4, .int .i64 a5, .int .i64 a6] 79)).alloc (.cells #[.int .i64 b0, .int .i64 b1, .int .i64 b2, .int .i64 b3, .int .i64 b4, .int .i64 b5, .int .i64 b6] 79)) w.heap.size 79 (la.map (Value.int .i64)) := by subst hla; exact (Blk.new w _ _).alloc _
  have BB : Blk ((w.alloc (.cells #[.int .i64 a0, .int .i64 a1, .int .i64 a2, .int .i64 a3, .int .i64 a4, .int .i64 a5, .int .i64 a6] 79)).alloc (.cells #[.int .i64 b0, .int .i64 b1, .int .i64 b2, .int .i64 b3, .int .i64 b4, .int .i64 b5, .int .i64 b6] 79)) (w.heap.size + 1) 79 (lb.map (Value.int .i64)) := by subst hlb; exact Blk.newAt _ _ _ (by simp)
  have ha : la.length = 7 := by rw [hla]; rfl
  have hb : lb.length = 7 := by rw [hlb]; rfl
  clear hla hlb
  have HH := Lib.hid (And.intro hW (And.intro BA (And.intro BB (And.intro ha hb))))
  clear hW BA BB ha hb
  simp only [List.map]
  go_enter Try.func13, Try.ntmps13
  go_wp2_with ((with_reducible refine at_list ?_); (with_reducible refine cut_at 13 rfl ?_))
  refine Cut.go ?_
  generalize ((w.alloc _).alloc _) = w1 at HH ⊢
  obtain ⟨hw1, BA, BB, ha, hb⟩ := HH.out
  clear HH
  have lA := BA.lt
  have lB := BB.lt
  have hz := hw1.size
  cases hs : sitesE n with
  | false =>
    have hn : n < 2 ∨ (¬ n < 2 ∧ 7 < n) := by unfold sitesE at hs; simp only [decide_eq_false_iff_not] at hs; omega
    clear hs
    rcases hn with h1 | ⟨h1, h2⟩
    all_goals
      go_wp2_with fail
      refine (works_any _).mono ?_
      rintro r w7 ⟨rfl, hb⟩
      have hB := below_trans hw1 hb hz
      go_wp2_with fail
      go_ret
      exact ⟨rfl, hB⟩
  | true =>
  have hn7 : 2 ≤ n ∧ n ≤ 7 := by rcases sites_cases hs with rfl | rfl | rfl | rfl | rfl | rfl <;> omega
  have hr := maj_range hs
  obtain ⟨N, rfl⟩ := Int.eq_ofNat_of_zero_le (show 0 ≤ n by omega)
  have hla : (la.take N).length = N := by rw [List.length_take]; omega
  have hlb : (lb.take N).length = N := by rw [List.length_take]; omega
  obtain ⟨x, hx, hkx⟩ := most_kth (l := la.take N) (n := N) ⟨hs, by rw [hla]; omega, by rw [hla]; omega⟩
  obtain ⟨y, hy, hky⟩ := most_kth (l := lb.take N) (n := N) ⟨hs, by rw [hlb]; omega, by rw [hlb]; omega⟩
  have NA := nums_take (nums_of BA) N
  have NB := nums_take (nums_of BB) N
  have H1 := Lib.hid (most_at (la.take N) hla.symm (some ⟨w.heap.size, 0, none⟩) 7 N hx w1 NA (by omega))
  have HK := Lib.hid (And.intro hkx (And.intro hky (And.intro hr hy)))
  have HL := Lib.hid (And.intro hla hlb)
  clear hx hkx hky hr hs hla hlb NA hy
  have n7 : (N : Int) ≤ 7 := by omega
  have n7b : N ≤ 7 := by omega
  go_wp2_with fail
  refine H1.out.mono ?_
  rintro r w2 ⟨rfl, hb2⟩
  have hw2 := below_trans hw1 hb2 hz
  have BA2 := BA.keep hb2
  have BB2 := BB.keep hb2
  have hz2 := hw2.size
  have lA := BA2.lt
  have lB := BB2.lt
  have H2 := Lib.hid (most_at (lb.take N) HL.out.2.symm (some ⟨w.heap.size + 1, 0, none⟩) 7 N HK.out.2.2.2 w2 (nums_take (nums_of BB2) N) (by have := HL.out.2; omega))
  clear hb2 BA BB NB H1 hw1 hz
  try clear w1
  go_wp2_with fail
  refine H2.out.mono ?_
  rintro r w3 ⟨rfl, hb3⟩
  have hw3 := below_trans hw2 hb3 hz2
  have BA3 := BA2.keep hb3
  have BB3 := BB2.keep hb3
  have hz3 := hw3.size
  have lA := BA3.lt
  have lB := BB3.lt
  clear hb3 BA2 BB2 H2 hw2 hz2
  try clear w2
  go_wp2_with fail
  go_loopg [11] N (fun q i wr => ∃ (j : Nat), q = N - j ∧ j ≤ N ∧ i = .int .i64 j ∧ (∀ i < j, ∀ u v, la[i]? = some u → lb[i]? = some v → ¬ (x ≤ u ∧ y ≤ v)) ∧ wr = w3)
  case atStart => exact ⟨0, rfl, by omega, rfl, fun i hi => by omega, rfl⟩
  case round =>
    obtain ⟨j, hq, hj, rfl, ht, rfl⟩ := hrel
    have AA : Aside (gk = N - j ∧ (∀ i < j, ∀ u v, la[i]? = some u → lb[i]? = some v → ¬ (x ≤ u ∧ y ≤ v))) := ⟨hq, ht⟩
    clear hq ht
    by_cases hlt : j < N
    · have j7 : j < 7 := by omega
      obtain ⟨u, hu⟩ : ∃ u, la[j]? = some u := ⟨_, List.getElem?_eq_getElem (by omega)⟩
      obtain ⟨v, hv⟩ : ∃ v, lb[j]? = some v := ⟨_, List.getElem?_eq_getElem (by omega)⟩
      have cu : wr.cell? ⟨w.heap.size, j, none⟩ = some (.int .i64 u) := (BA3.cell j).trans (by rw [List.getElem?_map, hu]; rfl)
      have cv : wr.cell? ⟨w.heap.size + 1, j, none⟩ = some (.int .i64 v) := (BB3.cell j).trans (by rw [List.getElem?_map, hv]; rfl)
      have HUV := Lib.hid (And.intro hu hv)
      clear hu hv
      by_cases hxy : x ≤ u ∧ y ≤ v
      · obtain ⟨g1, g2⟩ := hxy
        go_wp2_with fail
        refine (works_any _).mono ?_
        rintro r w7 ⟨rfl, hb⟩
        have hB := below_trans hw3 hb hz3
        go_wp2_with fail
        go_ret
        exact ⟨rfl, hB⟩
      · have HXY := Lib.hid hxy
        have hcc : ¬ x ≤ u ∨ (x ≤ u ∧ ¬ y ≤ v) := by
          by_cases h : x ≤ u
          · exact .inr ⟨h, fun h2 => hxy ⟨h, h2⟩⟩
          · exact .inl h
        clear hxy
        rcases hcc with g1 | ⟨g1, g2⟩
        all_goals
          go_wp2_with fail
          go_roundg (N - (j + 1))
          case measure => have hkk := AA.out.1; omega
          case rel =>
            refine ⟨j + 1, rfl, by omega, by go_num, fun i hi p q hp hq => ?_, rfl⟩
            by_cases hij : i = j
            · subst hij
              rw [HUV.out.1] at hp
              rw [HUV.out.2] at hq
              cases hp; cases hq
              exact HXY.out
            · exact AA.out.2 i (by omega) p q hp hq
    · obtain rfl : j = N := by omega
      exfalso
      have h := counts_meet (fun u => decide (x ≤ u)) (fun v => decide (y ≤ v)) (la.take j) (lb.take j) (by rw [HL.out.1, HL.out.2]) (fun i p q hp hq => by
        have hi := (List.getElem?_eq_some_iff.1 hp).1
        rw [HL.out.1] at hi
        rw [List.getElem?_take_of_lt hi] at hp hq
        have := AA.out.2 i hi p q hp hq
        simpa using this)
      have k1 := HK.out.1.2.1
      have k2 := HK.out.2.1.2.1
      have k3 := HK.out.2.2.1
      unfold geC at k1 k2
      rw [HL.out.1] at h
      omega
end Go.Proofs.Ytlineikeafepcaa
