/-
  The walks over slices.IndexFunc and slices.DeleteFunc of items, and over a stream's items.
-/
import Derived.Test.YtifeokabecgimaaFeedClone
import Derived.Test.YtifeokabecgimaaFeedSame
import Derived.Test.YtifeokabecgimaaGRow2
import Derived.Deep.LoopGhost
set_option linter.unusedSimpArgs false
set_option linter.unusedVariables false
set_option maxRecDepth 100000
namespace Go.Proofs.Ytifeokabecgimaa
open Go Go.RowKit Go.Sq Go.Wd Go.Arch

/-- Is an item a stream's? -/
def ofS (s : Int) (p : IA × Sl) : Bool := decide (p.1.1.1 = s)
def itemsOf (s : Int) (l : List IA) : List IA := l.filter fun x => decide (x.1.1 = s)
theorem map_ofS (s : Int) (ps : List (IA × Sl)) : (ps.filter (ofS s)).map (·.1) = itemsOf s (ps.map (·.1)) := by
  unfold itemsOf
  rw [List.filter_map]
  rfl

set_option maxHeartbeats 2000000 in
theorem del_any (x : IA) (sl : Sl) (bx : Nat) (s : Int) (w : World) (hc : w.cell? ⟨bx, 0, none⟩ = some (.int .i64 s)) (hb : bx < w.heap.size) :
    Calls Try.prog 45 #[.agg (iav (x, sl)).toArray, .pointer (some ⟨bx, 0, none⟩)] w fun e w' => e = .returned (.bool (x.1.1 != s)) ∧ Below w.heap.size w w' := by
  have hn : ¬ bx = w.heap.size := by omega
  have hal : Below w.heap.size w (w.alloc (.cells (iav (x, sl)).toArray 73)) := (Below.refl _ _).alloc (Nat.le_refl _) _
  have z0 := (Blk.new w 73 (iav (x, sl))).cell 0
  simp only [iav, List.getElem?_cons_zero] at z0
  have hc2 := (hal.cell (p := ⟨bx, 0, none⟩) hb).trans hc
  unfold iav at hal hc2 ⊢
  have HB := Lib.hid hal
  clear hal
  go_enter Try.func45, Try.ntmps45
  go_wp2_with fail
  go_ret
  exact ⟨rfl, HB.out⟩

set_option maxHeartbeats 2000000 in
theorem index_it (ps : List (IA × Sl)) (A : Option Addr) (c : Nat) (bx : Nat) (s : Int) (w : World) (hs : Gr.Sl itemE w w.heap.size A ps) (hl : ps.length ≤ 90000) (hc : w.cell? ⟨bx, 0, none⟩ = some (.int .i64 s)) (hb : bx < w.heap.size) :
    Calls Try.prog 50 #[.slice A ps.length c, .func (.func 45) #[] #[.pointer (some ⟨bx, 0, none⟩)]] w fun e w' => Below w.heap.size w w' ∧ ((e = .returned (.int .i64 (-1)) ∧ ∀ p ∈ ps, ofS s p = true) ∨ ∃ k : Nat, e = .returned (.int .i64 k) ∧ k < ps.length ∧ (ps.take (k + 1)).filter (ofS s) = ps.take k) := by
  have hw : Below w.heap.size w w := Below.refl _ _
  have H := Lib.hid hs
  have HC := Lib.hid hc
  clear hs hc
  go_enter Try.func50, Try.ntmps50
  go_wp2_with fail
  go_loopg [8] ps.length (fun k i wr => ∃ j : Nat, k = ps.length - j ∧ j ≤ ps.length ∧ i = .int .i64 j ∧ Below w.heap.size w wr ∧ ∀ p ∈ ps.take j, ofS s p = true)
  case atStart => exact ⟨0, rfl, by omega, rfl, hw, by simp⟩
  case round =>
    clear hw
    obtain ⟨j, hk, hj, rfl, hwr, hall⟩ := hrel
    have AA : Aside (gk = ps.length - j) := hk
    have HA := Lib.hid hall
    clear hk hall
    by_cases hlt : j < ps.length
    · obtain ⟨b1, o1, x, rfl, hx, _, FA⟩ := H.out.at_ hlt
      obtain ⟨x, sl⟩ := x
      have FA : ∀ w', Below w.heap.size w w' → Gr.At itemE w' b1 (o1 + j * 10) (x, sl) := FA
      obtain ⟨p0, p1, p2, p3, p4, p5, p6, p7, p8, p9⟩ := it_cells (FA _ hwr)
      go_wp2_with fail
      refine (del_any x sl bx s _ ((hwr.cell (p := ⟨bx, 0, none⟩) hb).trans HC.out) (Nat.lt_of_lt_of_le hb hwr.size)).mono ?_
      rintro e w1 ⟨rfl, hb1⟩
      have hw1 := below_trans hwr hb1 hwr.size
      clear hb1 p0 p1 p2 p3 p4 p5 p6 p7 p8 p9
      by_cases he : x.1.1 = s
      · have hbb : (x.1.1 != s) = false := by simpa using he
        have HZ := Lib.hid (show ∀ p ∈ ps.take (j + 1), ofS s p = true from fun p hp => by
          rw [List.take_add_one, hx.out] at hp
          rcases List.mem_append.1 hp with hp | hp
          · exact HA.out p hp
          · obtain rfl : p = (x, sl) := by simpa using hp
            exact decide_eq_true he)
        clear he
        go_wp2_with fail
        go_roundg (ps.length - (j + 1))
        case measure => have hkk := AA.out; omega
        case rel => exact ⟨j + 1, rfl, by omega, by go_num, hw1, HZ.out⟩
      · have hbb : (x.1.1 != s) = true := by simpa using he
        have HZ := Lib.hid (show (ps.take (j + 1)).filter (ofS s) = ps.take j from by
          rw [List.take_add_one, hx.out, List.filter_append, List.filter_eq_self.2 HA.out]
          simp [ofS, he])
        clear he
        go_wp2_with fail
        go_ret
        exact ⟨hw1, .inr ⟨j, rfl, hlt, HZ.out⟩⟩
    · obtain rfl : j = ps.length := by omega
      rw [List.take_length] at HA
      go_wp2_with fail
      go_ret
      exact ⟨hwr, .inl ⟨rfl, HA.out⟩⟩

/-- What a round of DeleteFunc holds on to: the row is qs, its first i ones are what was kept of the first j. -/
def DelI (w0 w : World) (B g n c : Nat) (s : Int) (ps qs : List (IA × Sl)) (i j : Nat) : Prop :=
  w0.grownBy w (some g) ∧ Gr.Row itemE w B (.slice (some ⟨g, 0, none⟩) n c) qs ∧ qs.take i = (ps.take j).filter (ofS s) ∧ qs.drop j = ps.drop j ∧ qs.length = ps.length ∧ i < j ∧ i ≤ ps.length
theorem keep_i {s : Int} {ps qs : List (IA × Sl)} {i j : Nat} {x : IA × Sl} (h : qs.take i = (ps.take j).filter (ofS s)) (hx : ps[j]? = some x) (hi : i < qs.length) (hk : ofS s x = true) : (qs.set i x).take (i + 1) = (ps.take (j + 1)).filter (ofS s) := by
  have h1 : ps.take (j + 1) = ps.take j ++ [x] := by rw [List.take_add_one, hx]; rfl
  have h2 : (qs.set i x).take (i + 1) = qs.take i ++ [x] := by
    rw [List.take_add_one, List.getElem?_set_self hi, List.take_set_of_le (by omega)]
    rfl
  rw [h1, h2, List.filter_append, ← h]
  simp [hk]
theorem skip_i {s : Int} {ps : List (IA × Sl)} {j : Nat} {x : IA × Sl} (hx : ps[j]? = some x) (hk : ofS s x = false) : (ps.take (j + 1)).filter (ofS s) = (ps.take j).filter (ofS s) := by
  have h1 : ps.take (j + 1) = ps.take j ++ [x] := by rw [List.take_add_one, hx]; rfl
  rw [h1, List.filter_append]
  simp [hk]
theorem drop_i {ps qs : List (IA × Sl)} {i j : Nat} {x : IA × Sl} (h : qs.drop j = ps.drop j) (hij : i < j) : (qs.set i x).drop (j + 1) = ps.drop (j + 1) := by
  rw [List.drop_set_of_lt (by omega), ← List.drop_drop (i := 1) (j := j), h, List.drop_drop]
theorem drop_n {ps qs : List (IA × Sl)} {j : Nat} (h : qs.drop j = ps.drop j) : qs.drop (j + 1) = ps.drop (j + 1) := by
  rw [← List.drop_drop (i := 1) (j := j), h, List.drop_drop]
theorem item_info22 : (Try.prog.info? 73).map (·.size) = some 10 := by kernel_rfl
theorem item_zero (w : World) : (zeroValue 73).run Try.prog w = .ok itemE.zero w := by kernel_rfl

set_option maxHeartbeats 4000000 in
theorem delete_it (ps : List (IA × Sl)) (g c B : Nat) (bx : Nat) (s : Int) (w : World) (hR : Gr.Row itemE w B (.slice (some ⟨g, 0, none⟩) ps.length c) ps) (hE : ∀ p ∈ ps, EvR w (some g) p) (hl : ps.length ≤ 90000) (hc : w.cell? ⟨bx, 0, none⟩ = some (.int .i64 s)) (hb : bx < w.heap.size) (hbg : bx ≠ g) :
    Calls Try.prog 44 #[.slice (some ⟨g, 0, none⟩) ps.length c, .func (.func 45) #[] #[.pointer (some ⟨bx, 0, none⟩)]] w fun e w' => e = .returned (.slice (some ⟨g, 0, none⟩) (itemsOf s (ps.map (·.1))).length c) ∧ ItsR w' (some ⟨g, 0, none⟩) (itemsOf s (ps.map (·.1))) ∧ w.grownBy w' (some g) := by
  have hlen : (itemsOf s (ps.map (·.1))).length = (ps.filter (ofS s)).length := by rw [← map_ofS, List.length_map]
  have hcc : ps.length ≤ c ∧ c ≤ 9223372036854775807 := by
    rcases Gr.Row.where_ hR with ⟨h, _⟩ | ⟨g', c', h, _, _, h1, h2⟩
    · cases h
    · cases h; exact ⟨h1, h2⟩
  have H := Lib.hid (And.intro hR (And.intro hE (And.intro hc hlen)))
  have hglt := (hR.lt g rfl).2
  clear hR hE hc hlen
  go_enter Try.func44, Try.ntmps44
  go_wp2_with fail
  refine (index_it ps (some ⟨g, 0, none⟩) c bx s w (fun h0 => by obtain ⟨A', c', h1, _, _, h2⟩ := Gr.Row.form H.out.1; cases h1; exact h2 h0) hl H.out.2.2.1 hb).mono ?_
  rintro e w1 ⟨hb1, ⟨rfl, hall⟩ | ⟨k, rfl, hk, hfk⟩⟩
  case inl =>
    have hself : ps.filter (ofS s) = ps := List.filter_eq_self.2 hall
    have HS := Lib.hid hself
    clear hall hself
    go_wp2_with fail
    go_ret
    refine ⟨by rw [H.out.2.2.2, HS.out]; rfl, ?_, only_of_below hb1 _⟩
    rw [← map_ofS, HS.out]
    exact ⟨ps, rfl, fun h0 => by obtain ⟨A', c', h1, _, _, h2⟩ := Gr.Row.form (Gr.Row.keep H.out.1 hb1); cases h1; exact h2 h0, fun p hp => (((H.out.2.1 p hp).pure hb1).any)⟩
  case inr =>
    have HI := Lib.hid (show DelI w w1 B g ps.length c s ps ps k (k + 1) from ⟨only_of_below hb1 _, Gr.Row.keep H.out.1 hb1, hfk.symm, rfl, rfl, by omega, by omega⟩)
    have hkk : ¬ (k : Int) = -1 := by omega
    have hkb : ((k : Int) == -1) = false := by rw [beq_eq_false_iff_ne]; omega
    clear hfk hkk
    go_wp2_with fail
    go_loopg [5, 6] (ps.length - (k + 1)) (fun q i j wr => ∃ (I J : Nat) (qs : List (IA × Sl)), q = ps.length - J ∧ J ≤ ps.length ∧ i = .int .i64 I ∧ j = .int .i64 J ∧ DelI w wr B g ps.length c s ps qs I J)
    case atStart => exact ⟨k, k + 1, ps, rfl, by omega, rfl, by first | rfl | (congr 1), HI.out⟩
    case round =>
      clear HI
      obtain ⟨I, J, qs, hq, hJ, rfl, rfl, hD⟩ := hrel
      have AA : Aside (gk = ps.length - J) := hq
      have HD := Lib.hid hD
      have hIJ := hD.2.2.2.2.2.1
      clear hq hD
      by_cases hlt : J < ps.length
      · obtain ⟨x, hx⟩ : ∃ x, ps[J]? = some x := ⟨_, List.getElem?_eq_getElem hlt⟩
        obtain ⟨x, sl⟩ := x
        have hqx : qs[J]? = some (x, sl) := by
          have h1 := congrArg (fun l => l[0]?) HD.out.2.2.2.1
          simp only [List.getElem?_drop, Nat.add_zero] at h1
          rw [h1, hx]
        have hat : Gr.At itemE wr g (J * 10) (x, sl) := Gr.Row.cell HD.out.2.1 hqx
        obtain ⟨p0, p1, p2, p3, p4, p5, p6, p7, p8, p9⟩ := it_cells hat
        have hgr := HD.out.1
        have hcb : wr.cell? ⟨bx, 0, none⟩ = some (.int .i64 s) := (World.cell?_of_block (a := ⟨bx, 0, none⟩) (hgr.block bx hb (fun e => hbg (Option.some.inj e)))).trans H.out.2.2.1
        have hbr : bx < wr.heap.size := Nat.lt_of_lt_of_le hb hgr.size
        have hal : Below wr.heap.size wr (wr.alloc (.cells (iav (x, sl)).toArray 73)) := (Below.refl _ _).alloc (Nat.le_refl _) _
        have BT := Blk.new wr 73 (iav (x, sl))
        have hx' := Lib.hid hx
        have hqx' := Lib.hid hqx
        clear hx hqx hat hgr
        go_wp2_with fail
        refine (del_any x sl bx s (wr.alloc (.cells (iav (x, sl)).toArray 73)) ((hal.cell (p := ⟨bx, 0, none⟩) hbr).trans hcb) (Nat.lt_of_lt_of_le hbr hal.size)).mono ?_
        rintro e w2 ⟨rfl, hb2⟩
        have hb3 := below_trans hal hb2 hal.size
        have BT2 := BT.keep hb2
        have HR2 := Lib.hid (And.intro (HD.out.1.trans (only_of_below hb3 _)) (And.intro (Gr.Row.keep HD.out.2.1 hb3) HD.out.2.2))
        clear hal BT hb2 hb3 p0 p1 p2 p3 p4 p5 p6 p7 p8 p9 hcb hbr
        by_cases he : x.1.1 = s
        · have hbb : (x.1.1 != s) = false := by simpa using he
          have hk1 : ofS s (x, sl) = true := decide_eq_true he
          have HK := Lib.hid hk1
          clear he hk1
          have hIq : I < qs.length := by rw [HR2.out.2.2.2.2.1]; omega
          have hIi : (I : Int) < (ps.length : Int) := by omega
          go_wp2_with ((with_reducible refine at_list ?_); first | refine wpList_load_blk rfl 73 _ rfl _ rfl _ _ _ (BT2) Try.underlying73 rfl item_info22 ?_ | (refine Gr.store_at (R := itemE) rfl 73 _ _ rfl g I ps.length c _ (x, sl) rfl rfl rfl rfl HR2.out.2.1 hIq ?_; intro w3 R3 g3))
          have HI3 := Lib.hid (show DelI w w3 B g ps.length c s ps (qs.set I (x, sl)) (I + 1) (J + 1) from ⟨HR2.out.1.trans g3, R3, keep_i HR2.out.2.2.1 hx'.out hIq HK.out, drop_i HR2.out.2.2.2.1 hIJ, by rw [List.length_set]; exact HR2.out.2.2.2.2.1, by omega, by omega⟩)
          clear R3 g3 BT2 HR2
          go_wp2_with fail
          go_roundg (ps.length - (J + 1))
          case measure => have hkk := AA.out; omega
          case rel => exact ⟨I + 1, J + 1, _, rfl, by omega, by go_num, by go_num, HI3.out⟩
        · have hbb : (x.1.1 != s) = true := by simpa using he
          have hk1 : ofS s (x, sl) = false := decide_eq_false he
          have HI3 := Lib.hid (show DelI w w2 B g ps.length c s ps qs I (J + 1) from ⟨HR2.out.1, HR2.out.2.1, by rw [HR2.out.2.2.1, skip_i hx'.out hk1], drop_n HR2.out.2.2.2.1, HR2.out.2.2.2.2.1, by omega, HR2.out.2.2.2.2.2.2⟩)
          clear he hk1 BT2 HR2
          go_wp2_with fail
          go_roundg (ps.length - (J + 1))
          case measure => have hkk := AA.out; omega
          case rel => exact ⟨I, J + 1, _, rfl, by omega, rfl, by go_num, HI3.out⟩
      · obtain rfl : J = ps.length := by omega
        have hIn : I < ps.length := hIJ
        have hIi : (I : Int) < (ps.length : Int) := by omega
        have hIc : ¬ (c : Int) ≤ (I : Int) := by omega
        have hfin := HD.out.2.2.1
        rw [List.take_length] at hfin
        have hql := HD.out.2.2.2.2.1
        obtain ⟨w4, hclr, g4, hat⟩ := Gr.Row.clear (c' := c - I) HD.out.2.1 (i := I) (m := ps.length - I) (by rw [hql]; omega) (by simp [itemE, Value.cells, Value.oneCell']) item_zero 0
        have hil : I = (itemsOf s (ps.map (·.1))).length := by
          rw [H.out.2.2.2, ← hfin, List.length_take]
          omega
        have hadd : (⟨g, 0, none⟩ : Addr).add (I * 10) = ⟨g, I * 10, none⟩ := by rw [Gr.add_at, Nat.zero_add]
        have HF := Lib.hid (show ItsR w4 (some ⟨g, 0, none⟩) (itemsOf s (ps.map (·.1))) ∧ w.grownBy w4 (some g) from by
          have hg := HD.out.1.trans g4
          refine ⟨⟨ps.filter (ofS s), map_ofS s ps, fun h0 => ⟨g, 0, rfl, Nat.lt_of_lt_of_le hglt hg.size, fun i e he => ?_⟩, fun p hp => ?_⟩, hg⟩
          · rw [Nat.zero_add]
            rw [← hfin, List.getElem?_take] at he
            split at he
            · rename_i hi
              exact hat i e hi he
            · cases he
          · exact ((H.out.2.1 p (List.mem_filter.1 hp).1).move hg (.inl rfl)).any)
        have HC := Lib.hid (And.intro hil hadd)
        clear hfin hat hil g4
        have hclr2 : (Builtin.clear_ #[56] 0 #[.slice (some ⟨g, I * 10, none⟩) (ps.length - I) (c - I)]).run Try.prog wr = .ok (.tuple #[]) w4 := hclr
        clear hclr hadd
        go_wp2_with fail
        go_ret
        refine ⟨?_, HF.out⟩
        rw [← HC.out.1]
        rfl

theorem below_grown22 {B g : Nat} {w w' : World} (hg : w.grownBy w' (some g)) (hB : B ≤ g) (hw : B ≤ w.heap.size) : Below B w w' := ⟨hg.os, hg.tape, hg.output, hg.size, fun k hk => hg.block k (by omega) (by intro e; cases e; omega)⟩
set_option maxHeartbeats 4000000 in
theorem delete_nil (bx : Nat) (s : Int) (w : World) (hc : w.cell? ⟨bx, 0, none⟩ = some (.int .i64 s)) (hb : bx < w.heap.size) :
    Calls Try.prog 44 #[.slice none 0 0, .func (.func 45) #[] #[.pointer (some ⟨bx, 0, none⟩)]] w fun e w' => e = .returned (.slice none 0 0) ∧ Below w.heap.size w w' := by
  go_enter Try.func44, Try.ntmps44
  go_wp2_with fail
  refine (index_it [] none 0 bx s w Gr.Sl.nil (by simp) hc hb).mono ?_
  rintro e w1 ⟨hb1, ⟨rfl, hall⟩ | ⟨k, rfl, hk, hfk⟩⟩
  · go_wp2_with fail
    go_ret
    exact ⟨rfl, hb1⟩
  · simp at hk

set_option maxHeartbeats 4000000 in
theorem of_items (l : List IA) (A : Option Addr) (c : Nat) (s : Int) (w : World) (h : ItsR w A l) (hl : l.length ≤ 90000) (hA : A = none → c = 0) :
    Calls Try.prog 32 #[.slice A l.length c, .int .i64 s] w fun e w' => ∃ A' c', e = .returned (.slice A' (itemsOf s l).length c') ∧ ItsR w' A' (itemsOf s l) ∧ Below w.heap.size w w' := by
  have hz : Below w.heap.size w (w.alloc (.cells #[.int .i64 s] 3)) := (Below.refl _ _).alloc (Nat.le_refl _) _
  have BB := Blk.new w 3 [.int .i64 s]
  have H := Lib.hid (And.intro hz (And.intro BB (h.keep hz)))
  clear hz BB h
  go_enter Try.func32, Try.ntmps32
  go_wp2_with fail
  refine (clone_it l A c _ H.out.2.2 (by omega) hA).mono ?_
  rintro e w1 ⟨v, rfl, hI, hb⟩
  have hw1 := below_trans H.out.1 hb H.out.1.size
  have B1 := H.out.2.1.keep hb
  have hbl := H.out.2.1.lt
  have c0 := B1.cell 0
  simp only [List.getElem?_cons_zero] at c0
  obtain ⟨ps, hps, hR, hE⟩ := hI
  rcases id hR.2 with ⟨rfl, h0⟩ | ⟨g, cap, cur, rfl, h1, _⟩
  · have hp : ps = [] := List.eq_nil_of_length_eq_zero h0
    subst hp
    have hln : l = [] := by simpa using hps.symm
    have HN := Lib.hid (show itemsOf s l = [] by rw [hln]; rfl)
    clear hR hE H hb hps hln h0
    go_wp2_with fail
    refine (delete_nil w.heap.size s w1 c0 B1.lt).mono ?_
    rintro e w2 ⟨rfl, hb2⟩
    have hw2 := below_trans hw1 hb2 hw1.size
    clear B1 c0 hw1 hb2
    go_wp2_with fail
    go_ret
    exact ⟨none, 0, by rw [HN.out]; rfl, by rw [HN.out]; exact ItsR.nil, hw2⟩
  · have hbg : w.heap.size ≠ g := by omega
    have hpl : ps.length = l.length := by rw [← hps, List.length_map]
    have HD := Lib.hid (delete_it ps g cap _ w.heap.size s w1 hR hE (by omega) c0 B1.lt hbg)
    have HP := Lib.hid (And.intro hps (show w.heap.size ≤ g by omega))
    have hz1 := hw1.size
    clear hR hE H hb hps h1 hbg c0 hbl hpl
    go_wp2_with fail
    refine HD.out.mono ?_
    rintro e w2 ⟨rfl, hI2, hg⟩
    have HQ := Lib.hid (And.intro hI2 (hw1.trans (below_grown22 hg HP.out.2 hz1)))
    clear hI2 hg B1 hw1 HD
    rw [HP.out.1] at HQ ⊢
    go_wp2_with fail
    go_ret
    exact ⟨_, _, rfl, HQ.out⟩
end Go.Proofs.Ytifeokabecgimaa
