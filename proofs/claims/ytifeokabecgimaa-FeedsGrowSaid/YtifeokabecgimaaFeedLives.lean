/-
  The walk over the chapter's feed.
-/
import Derived.Test.YtifeokabecgimaaFeedLogs
import Derived.Test.YtifeokabecgimaaFeedPage
import Derived.Test.YtifeokabecgimaaFeedOf
set_option linter.unusedSimpArgs false
set_option linter.unusedVariables false
set_option maxRecDepth 100000
namespace Go.Proofs.Ytifeokabecgimaa
open Go Go.RowKit Go.Sq Go.Wd Go.Arch

theorem items_val {M : Logs4} {feed : List Spt} {l : List IA} (hv : itemsS M feed = some l) {n : Nat} (hn : l.length = n) (As : Nat → Option Addr) (cs : Nat → Nat) (A : Option Addr) (c : Nat) (w : World) (HL : Logs4At w As cs M) (hwf : ∀ i, i < 4 → ∀ e ∈ M i, (Lit.int .i64 e.2.1).wf = true)
    (HF : Gr.Sl spotE w w.heap.size A feed) (hfl : feed.length ≤ 90000) :
    Calls Try.prog 26 #[.slice A feed.length c, .agg (l4v As cs M).toArray] w fun e w' => ∃ A' c', e = .returned (.tuple #[.slice A' n c', .int .i64 0]) ∧ ItsR w' A' l ∧ n ≤ c' ∧ c' ≤ 9223372036854775807 ∧ (A' = none → c' = 0) ∧ Below w.heap.size w w' := by
  refine (items_any M As cs feed A c w HL hwf HF hfl).mono ?_
  rintro e w' (⟨h, _⟩ | ⟨l', v, h, rfl, hI, hb⟩)
  · rw [hv] at h; cases h
  · rw [hv] at h
    cases h
    obtain ⟨ps, h1, h2, h3⟩ := id hI
    obtain ⟨A', c', rfl, k1, k2, hr⟩ := hI.form
    refine ⟨A', c', by rw [hn], hr, by omega, k2, fun e => ?_, hb⟩
    subst e
    rcases h2.2 with ⟨h, _⟩ | ⟨g, cap, cur, h, _⟩
    · injection h
    · injection h with h1
      cases h1
theorem items_none {M : Logs4} {feed : List Spt} (hv : itemsS M feed = none) (As : Nat → Option Addr) (cs : Nat → Nat) (A : Option Addr) (c : Nat) (w : World) (HL : Logs4At w As cs M) (hwf : ∀ i, i < 4 → ∀ e ∈ M i, (Lit.int .i64 e.2.1).wf = true)
    (HF : Gr.Sl spotE w w.heap.size A feed) (hfl : feed.length ≤ 90000) :
    Calls Try.prog 26 #[.slice A feed.length c, .agg (l4v As cs M).toArray] w fun e w' => e = .returned (.tuple #[.slice none 0 0, .int .i64 2]) ∧ Below w.heap.size w w' := by
  refine (items_any M As cs feed A c w HL hwf HF hfl).mono ?_
  rintro e w' (⟨_, h1, h2⟩ | ⟨l', v, h, _⟩)
  · exact ⟨h1, h2⟩
  · rw [hv] at h; cases h

theorem page_val {l l' : List IA} {A : Option Addr} {c F K n nx m : Nat} (hm : l.length = m) (hv : (l.drop F).take (pageN l.length F K) = l') (hn : l'.length = n) (hx : F + pageN l.length F K = nx) (w : World) (h : ItsR w A l) (hl : l.length ≤ 90000) (hc : l.length ≤ c) (hA : A = none → c = 0) (hF : F ≤ l.length) (hK : K ≤ 9223372036854775807) (hc2 : c ≤ 9223372036854775807) :
    Calls Try.prog 31 #[.slice A m c, .int .i64 F, .int .i64 K] w fun e w' => ∃ A' c', e = .returned (.tuple #[.slice A' n c', .int .i64 nx, .int .i64 0]) ∧ ItsR w' A' l' ∧ n ≤ c' ∧ c' ≤ 9223372036854775807 ∧ Below w.heap.size w w' := by
  subst hm
  refine (page_any l A c F K w h hl hc hA hF hK hc2).mono ?_
  rintro e w' ⟨v, rfl, hI, hb⟩
  rw [hv] at hI
  obtain ⟨A', c', rfl, k1, k2, hr⟩ := hI.form
  rw [hn] at k1 ⊢
  exact ⟨A', c', by rw [hx], hr, k1, k2, hb⟩

def lvO : List Ord := [⟨1, 0, -1, 1, 1⟩, ⟨2, 0, -1, 2, 5⟩, ⟨1, 2, -1, 1, 2⟩]
def lvI : List IA := [((0, 0), ⟨1, 0, -1, 1, 1⟩, (1, 1, [(1, 1)])), ((2, 0), ⟨1, 2, -1, 1, 2⟩, (1, 1, [(1, 2)])), ((0, 1), ⟨2, 0, -1, 2, 5⟩, (1, 2, [(2, 5)]))]
theorem lv_items : itemsS (logsO lvO) [(0, 0), (2, 0), (0, 1)] = some lvI := by rfl
theorem lv_bad : itemsS (logsO lvO) [(0, 1)] = none := by rfl
theorem lv_wf : ∀ i, i < 4 → ∀ e ∈ logsO lvO i, (Lit.int .i64 e.2.1).wf = true := fun i _ => logsO_wf (by
  intro o ho
  simp only [lvO, List.mem_cons, List.not_mem_nil, or_false] at ho
  rcases ho with rfl | rfl | rfl <;> rfl) i

set_option maxHeartbeats 4000000 in
theorem lives_any (w : World) : Calls Try.prog 25 #[] w fun e w' => e = .returned (.bool true) ∧ Below w.heap.size w w' := by
  have hL : Gr.Sl ordE (w.alloc (.cells #[.int .i64 1, .int .i64 0, .int .i64 (-1), .int .i64 1, .int .i64 1, .int .i64 2, .int .i64 0, .int .i64 (-1), .int .i64 2, .int .i64 5, .int .i64 1, .int .i64 2, .int .i64 (-1), .int .i64 1, .int .i64 2] 43)) (w.heap.size + 1) (some ⟨w.heap.size, 0, none⟩) lvO := Gr.Sl.lit (R := ordE) w lvO
  have hz : Below w.heap.size w ((w.alloc (.cells #[.int .i64 1, .int .i64 0, .int .i64 (-1), .int .i64 1, .int .i64 1, .int .i64 2, .int .i64 0, .int .i64 (-1), .int .i64 2, .int .i64 5, .int .i64 1, .int .i64 2, .int .i64 (-1), .int .i64 1, .int .i64 2] 43)).alloc (.cells #[.slice (some ⟨w.heap.size, 0, none⟩) 3 3] 55)) := ((Below.refl _ _).alloc (Nat.le_refl _) _).alloc (by simp) _
  have BL := Blk.new1 w (.cells #[.int .i64 1, .int .i64 0, .int .i64 (-1), .int .i64 1, .int .i64 1, .int .i64 2, .int .i64 0, .int .i64 (-1), .int .i64 2, .int .i64 5, .int .i64 1, .int .i64 2, .int .i64 (-1), .int .i64 1, .int .i64 2] 43) 55 [.slice (some ⟨w.heap.size, 0, none⟩) 3 3]
  have hL2 : Gr.Sl ordE ((w.alloc (.cells #[.int .i64 1, .int .i64 0, .int .i64 (-1), .int .i64 1, .int .i64 1, .int .i64 2, .int .i64 0, .int .i64 (-1), .int .i64 2, .int .i64 5, .int .i64 1, .int .i64 2, .int .i64 (-1), .int .i64 1, .int .i64 2] 43)).alloc (.cells #[.slice (some ⟨w.heap.size, 0, none⟩) 3 3] 55)) _ (some ⟨w.heap.size, 0, none⟩) lvO := (hL.more (by simp)).keep ((Below.refl _ _).alloc (Nat.le_refl _) _)
  have H1 := Lib.hid (And.intro hz (And.intro BL hL2))
  clear hL hz BL hL2
  go_enter Try.func25, Try.ntmps25
  go_wp2_with ((with_reducible refine cut_at 18 rfl ?_))
  refine Cut.go ?_
  generalize ((w.alloc (.cells #[.int .i64 1, .int .i64 0, .int .i64 (-1), .int .i64 1, .int .i64 1, .int .i64 2, .int .i64 0, .int .i64 (-1), .int .i64 2, .int .i64 5, .int .i64 1, .int .i64 2, .int .i64 (-1), .int .i64 1, .int .i64 2] 43)).alloc (.cells #[.slice (some ⟨w.heap.size, 0, none⟩) 3 3] 55)) = w1 at H1 ⊢
  have BL := H1.out.2.1
  have lBL := BL.lt
  have x0 := BL.cell 0
  simp only [List.getElem?_cons_zero] at x0
  have hz1 := H1.out.1.size
  have hs2 := Gr.Sl.lit (R := spotE) w1 [(0, 0), (2, 0), (0, 1)]
  have hb2 : Below w1.heap.size w1 (w1.alloc (.cells #[.int .i64 0, .int .i64 0, .int .i64 2, .int .i64 0, .int .i64 0, .int .i64 1] 71)) := (Below.refl _ _).alloc (Nat.le_refl _) _
  have H2 := Lib.hid (And.intro hb2 (show Gr.Sl spotE (w1.alloc (.cells #[.int .i64 0, .int .i64 0, .int .i64 2, .int .i64 0, .int .i64 0, .int .i64 1] 71)) (w1.alloc (.cells #[.int .i64 0, .int .i64 0, .int .i64 2, .int .i64 0, .int .i64 0, .int .i64 1] 71)).heap.size (some ⟨w1.heap.size, 0, none⟩) [(0, 0), (2, 0), (0, 1)] from hs2.more (by simp)))
  clear hs2 hb2
  go_wp2_with fail
  generalize (w1.alloc (.cells #[.int .i64 0, .int .i64 0, .int .i64 2, .int .i64 0, .int .i64 0, .int .i64 1] 71)) = w2 at H2 ⊢
  refine (logsOf_any lvO (some ⟨w.heap.size, 0, none⟩) 3 w2 (H1.out.2.2.keep H2.out.1) (by decide)).mono ?_
  rintro e w3 ⟨As, cs, rfl, hL3, hb3⟩
  have H3 := Lib.hid (And.intro hL3 (And.intro hb3 (H2.out.2.keep hb3)))
  clear hL3 hb3
  go_wp2_with fail
  refine (items_val lv_items (n := 3) rfl As cs (some ⟨w1.heap.size, 0, none⟩) 3 w3 H3.out.1 lv_wf H3.out.2.2 (by decide)).mono ?_
  rintro e w4 ⟨A4, c4, rfl, hI4, hc4, hm4, hn4, hb4⟩
  have hb14 := below_trans (below_trans H2.out.1 H3.out.2.1 H2.out.1.size) hb4 (Nat.le_trans H2.out.1.size H3.out.2.1.size)
  have H4 := Lib.hid (And.intro hI4 (And.intro hb14 hn4))
  obtain ⟨b, off, y0, s0, rfl, he0, hbl, _, F0⟩ := hI4.at_ (k := 0) (by decide)
  obtain ⟨b', off', y1, s1, hA1, he1, _, _, F1⟩ := hI4.at_ (k := 1) (by decide)
  obtain ⟨b'', off'', y2, s2, hA2, he2, _, _, F2⟩ := hI4.at_ (k := 2) (by decide)
  cases hA1
  cases hA2
  obtain rfl := Option.some.inj he0.out
  obtain rfl := Option.some.inj he1.out
  obtain rfl := Option.some.inj he2.out
  clear hI4 hb4 hb14 he0 he1 he2 H2 H3
  obtain ⟨a0, a1, a2, a3, a4, a5, a6, a7, a8, a9⟩ := it_cells (F1 _ (Below.refl _ _))
  obtain ⟨d0, d1, d2, d3, d4, d5, d6, d7, d8, d9⟩ := it_cells (F2 _ (Below.refl _ _))
  clear F0 F1 F2
  go_wp2_with ((with_reducible refine cut_at 67 rfl ?_))
  refine Cut.go ?_
  clear a0 a1 a2 a3 a4 a5 a6 a7 a8 a9 d0 d1 d2 d3 d4 d5 d6 d7 d8 d9
  have BL4 := BL.keep H4.out.2.1
  have z0 := BL4.cell 0
  simp only [List.getElem?_cons_zero] at z0
  have hz4 := H4.out.2.1.size
  have lBL4 := BL4.lt
  have hs5 := Gr.Sl.lit (R := spotE) w4 [(0, 1)]
  have hb5 : Below w4.heap.size w4 (w4.alloc (.cells #[.int .i64 0, .int .i64 1] 71)) := (Below.refl _ _).alloc (Nat.le_refl _) _
  have H5 := Lib.hid (And.intro hb5 (show Gr.Sl spotE (w4.alloc (.cells #[.int .i64 0, .int .i64 1] 71)) (w4.alloc (.cells #[.int .i64 0, .int .i64 1] 71)).heap.size (some ⟨w4.heap.size, 0, none⟩) [(0, 1)] from hs5.more (by simp)))
  clear hs5 hb5
  go_wp2_with fail
  generalize (w4.alloc (.cells #[.int .i64 0, .int .i64 1] 71)) = w5 at H5 ⊢
  have hb15 := below_trans H4.out.2.1 H5.out.1 H4.out.2.1.size
  refine (logsOf_any lvO (some ⟨w.heap.size, 0, none⟩) 3 w5 (H1.out.2.2.keep hb15) (by decide)).mono ?_
  rintro e w6 ⟨As', cs', rfl, hL6, hb6⟩
  have H6 := Lib.hid (And.intro hL6 (And.intro hb6 (H5.out.2.keep hb6)))
  clear hL6 hb6
  go_wp2_with fail
  refine (items_none lv_bad As' cs' (some ⟨w4.heap.size, 0, none⟩) 1 w6 H6.out.1 lv_wf H6.out.2.2 (by decide)).mono ?_
  rintro e w7 ⟨rfl, hb7⟩
  have hb47 := below_trans (below_trans H5.out.1 H6.out.2.1 H5.out.1.size) hb7 (Nat.le_trans H5.out.1.size H6.out.2.1.size)
  have H7 := Lib.hid (And.intro (H4.out.1.keep hb47) (And.intro (below_trans H4.out.2.1 hb47 H4.out.2.1.size) H4.out.2.2))
  clear hb47 hb7 hb15 H4 H5 H6 BL4 z0 hz4 lBL4
  go_wp2_with fail
  refine (page_val (l := lvI) (F := 1) (K := 1) (l' := [((2, 0), ⟨1, 2, -1, 1, 2⟩, (1, 1, [(1, 2)]))]) (n := 1) (nx := 2) rfl rfl rfl rfl w7 H7.out.1 (by decide) hc4 (fun e => by cases e) (by decide) (by omega) hm4).mono ?_
  rintro e w8 ⟨A8, c8, rfl, hr8, k8, k8', hb8⟩
  obtain ⟨b8, off8, y8, s8, rfl, he8, hbl8, _, F8⟩ := hr8.at_ (k := 0) (by decide)
  have hy8 := Option.some.inj he8.out
  have H8 := Lib.hid (And.intro (H7.out.1.keep hb8) (below_trans H7.out.2.1 hb8 H7.out.2.1.size))
  obtain ⟨a0, _⟩ := it_cells (F8 _ (Below.refl _ _))
  rw [← hy8] at a0
  simp only [Nat.zero_mul, Nat.add_zero] at a0
  have HA := Lib.hid (And.intro a0 hbl8)
  clear hr8 hb8 he8 F8 hy8 a0 H7 hbl8
  go_wp2_with fail
  refine (page_bad lvI (some ⟨b, off, none⟩) c4 4 1 w8 (by decide)).mono ?_
  rintro e w9 ⟨rfl, rfl⟩
  have a0 := HA.out.1
  have hbl8 := HA.out.2
  go_wp2_with fail
  refine (of_items lvI (some ⟨b, off, none⟩) c4 0 w9 H8.out.1 (by decide) (fun e => by cases e)).mono ?_
  rintro e w10 ⟨A10, c10, rfl, _, hb10⟩
  have hl2 : (itemsOf 0 lvI).length = 2 := by decide
  rw [hl2]
  have hB := below_trans H1.out.1 (below_trans H8.out.2 hb10 H8.out.2.size) H1.out.1.size
  clear hb10 hl2
  go_wp2_with fail
  go_ret
  exact ⟨rfl, hB⟩
end Go.Proofs.Ytifeokabecgimaa
