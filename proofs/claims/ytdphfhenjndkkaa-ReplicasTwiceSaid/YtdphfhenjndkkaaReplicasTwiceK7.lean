/-
  The walk over the statement ReplicasTwice.
  A slice within a struct that comes in.
  Registers and records that come in.
  Structs of numbers that come in, of any number of fields.
  Slices of structs that come in, whatever struct.
  Mail that comes in, and what a ballot begins with.
-/
import Derived.Test.YtdphfhenjndkkaaReplicasTwiceK1
import Derived.Test.YtdphfhenjndkkaaReplicasTwiceK2
import Derived.Test.YtdphfhenjndkkaaReplicasTwiceK3
import Derived.Test.YtdphfhenjndkkaaReplicasTwiceK4
import Derived.Test.YtdphfhenjndkkaaReplicasTwiceK5
import Derived.Test.YtdphfhenjndkkaaReplicasTwiceK6
set_option linter.unusedSimpArgs false
set_option linter.unusedVariables false
set_option maxRecDepth 100000
namespace Go.Proofs.Ytdphfhenjndkkaa
open Go Go.RowKit Go.Sq Go.Wd Go.Arch Go.Im

theorem one_of {α : Type} {l : List α} {y : α} (h : l.length = 1) (hy : l[0]? = some y) : l = [y] := by
  cases l with
  | nil => cases h
  | cons a l =>
    cases l with
    | nil => cases hy; rfl
    | cons _ _ => simp at h
theorem bne_one {n : Nat} (h : n = 1) : ((n : Int) != 1) = false := by subst h; rfl
set_option maxHeartbeats 16000000 in
theorem replicasTwice_walk (l : List MailV) (A : Option Addr) (c : Nat) (ts : List Int) (At_ : Option Addr) (ct : Nat) (x : MailV) (w : World) (hl : Mails w w.heap.size A l) (hn : l.length ≤ 9223372036854775807) (ht : Nums w w.heap.size At_ .u8 ts) (htn : ts.length ≤ 9223372036854775807) (ht8 : ∀ k ∈ ts, 0 ≤ k ∧ k ≤ 255) (hx : LogAt w w.heap.size x.es x.m.ents) :
    Calls Try.prog 4 #[.slice A l.length c, .slice At_ ts.length ct, .agg (mailv x).toArray] w fun e w' => e = .returned (.bool true) ∧ Below w.heap.size w w' := by
  have hz := (Below.refl w.heap.size w).alloc (Nat.le_refl _) (.cells (mailv x).toArray 43)
  have bz := Blk.new w 43 (mailv x)
  have hsz : (w.alloc (.cells (mailv x).toArray 43)).heap.size = w.heap.size + 1 := by simp
  have HE := Lib.hid (And.intro hz (And.intro bz (And.intro ((hl.below hz).more hz.size) (And.intro ((ht.below hz).more hz.size) (And.intro hsz (And.intro hx ht8))))))
  clear hz bz hl ht ht8 hsz hx
  go_enter Try.func4, Try.ntmps4
  go_wp2_with fail
  refine (beyond19_any l A c _ HE.out.2.2.1 hn).mono ?_
  rintro e w1 ⟨y, rfl, hfew, hb1⟩
  have hb1' := below_trans HE.out.1 hb1 HE.out.1.size
  have hz1 := hb1.size
  rw [HE.out.2.2.2.2.1] at hz1
  have H1 := Lib.hid (And.intro hb1' (And.intro (HE.out.2.1.keep hb1) (And.intro (HE.out.2.2.1.keep hb1) (And.intro ((HE.out.2.2.2.1.below hb1).more hb1.size) hz1))))
  have hx := Lib.hid HE.out.2.2.2.2.2.1
  have ht8 := Lib.hid HE.out.2.2.2.2.2.2
  clear hb1 hb1' hz1 HE
  cases y with
  | true =>
    clear hfew
    go_wp2_with fail
    refine (lives19_any _).mono ?_
    rintro e w2 ⟨rfl, hb⟩
    have hw2 := below_trans H1.out.1 hb H1.out.1.size
    clear hb
    go_wp2_with fail
    go_ret
    exact ⟨rfl, hw2⟩
  | false =>
    have HF := Lib.hid (hfew rfl)
    clear hfew
    have c9 : w1.cell? ⟨w.heap.size, 9, none⟩ = some (.slice x.es.1 x.m.ents.length x.es.2.2) := by
      rw [H1.out.2.1.cell, ← hx.out.1]
      rfl
    by_cases h1 : 100 < x.m.ents.length
    · have h1' : (100 : Int) < (x.m.ents.length : Int) := by omega
      go_wp2_with fail
      refine (lives19_any _).mono ?_
      rintro e w2 ⟨rfl, hb⟩
      have hw2 := below_trans H1.out.1 hb H1.out.1.size
      clear hb
      go_wp2_with fail
      go_ret
      exact ⟨rfl, hw2⟩
    · have h1' : ¬ (100 : Int) < (x.m.ents.length : Int) := by omega
      go_wp2_with fail
      clear c9 h1'
      have HX := Lib.hid h1
      have hl60 := HF.out.1
      clear h1
      refine (played_any l A c ts At_ ct _ H1.out.2.2.1 HF.out H1.out.2.2.2.1 htn ht8.out).mono ?_
      rintro e w2 ⟨q, s, b, m, n, nv, G, rfl, -, hnv, hn2, hmr, hL, hB, hb2, hmm⟩
      have hw2 := below_trans H1.out.1 hb2 H1.out.1.size
      have hz1 := H1.out.2.2.2.2
      have hz2 := hb2.size
      have hM0 := H1.out.2.1.keep hb2
      have hF0 : FarS (w.heap.size + 1) s := hL.2.less (by omega)
      have hne : w2.heap.size ≠ w.heap.size := by omega
      have HN := Lib.hid (And.intro hnv (And.intro hn2 (And.intro hmr hl60)))
      have hmm' : w.heap.size ≤ m := by omega
      have HR0 := Lib.hid (And.intro hw2 (And.intro hL.1 (And.intro hB (And.intro hmm' (And.intro hM0 (And.intro hF0 hne))))))
      clear hL hB hb2 hmm hmm' hw2 hz1 hz2 hM0 hF0 hne hnv hn2 hmr H1 HF
      go_wp2_with ((with_reducible refine at_list ?_); first | (with_reducible refine cut_at 30 rfl ?_) | (refine wpList_store_own rfl 37 _ _ rfl _ (rgv q s) rfl rfl _ _ (Blk.new w2 37 (rgv reg0 (none, 0, 0))) rg_info rfl (rgv_one _ _) ?_; intro w3 B3 g3))
      refine Cut.go ?_
      have ha := below_new g3
      have hR0 : RfI w w3 w2.heap.size q s b m n 0 G := ⟨below_trans HR0.out.1 ha HR0.out.1.size, B3, HR0.out.2.1.keep ha, HR0.out.2.2.1.below ha, HR0.out.2.2.2.1, HR0.out.1.size⟩
      have hM3 := HR0.out.2.2.2.2.1.keep ha
      have hT := TwI.mark hR0 hM3 HR0.out.2.2.2.2.2.2 HR0.out.2.2.2.2.2.1 hx.out
      have c3 : w3.cell? ⟨w.heap.size, 3, none⟩ = some (.int .i64 x.m.stream) := hM3.cell 3
      have z3 : w3.frozen? ⟨w.heap.size, 3, none⟩ = false := hM3.frozen 3
      clear HR0 ha hR0 hM3 B3 g3
      have HT := Lib.hid hT
      clear hT
      generalize w2.heap.size = gr at HT ⊢
      go_wp2_with ((with_reducible refine at_list ?_); (with_reducible refine cut_at 32 rfl ?_))
      refine Cut.go ?_
      clear c3 z3
      refine abs_list (fun W => TwI w W gr w.heap.size q s b m n G (st1 x)) HT.out ?_
      clear HT
      intro w5 h5
      have hx1 : (st1 x).m.ents.length ≤ 100 := by have := HX.out; show x.m.ents.length ≤ 100; omega
      clear HX hx
      obtain ⟨xx, hxx⟩ : ∃ xx, st1 x = xx := ⟨_, rfl⟩
      rw [hxx] at h5 hx1
      clear hxx
      have H5 := Lib.hid (And.intro h5 hx1)
      clear h5 hx1
      go_wp2_with ((with_reducible refine at_list ?_); first | refine wpList_load_blk rfl 37 _ rfl _ rfl _ _ _ (H5.out.1.1.2.1) Try.underlying37 rfl rg_info ?_ | refine wpList_load_blk rfl 43 _ rfl _ rfl _ _ _ (H5.out.1.2.1) Try.underlying43 rfl mail_info ?_)
      refine (take_any q s b m n 0 G xx nv w5 H5.out.1.1.2.2.2.1 (by have := HN.out; unfold maxLen; omega) HN.out.1.1 H5.out.1.1.2.2.1 H5.out.1.2.2 (by have := H5.out.2; omega)).mono ?_
      rintro e w6 ⟨⟨A1, d1, A2, d2, xs, ys, rfl, hR, hM, hxs, hys, -, hyo⟩, hB6, hK6⟩
      obtain ⟨may, hmay⟩ : ∃ may, mayL 0 (G xx.m.stream) xx.m.epoch nv = may := ⟨_, rfl⟩
      have hG : (takeS q may xx.m).act = 0 → mayL 0 ((bookG (takeS q may xx.m).act G xx.m.stream xx.m.epoch nv) xx.m.stream) xx.m.epoch nv = may := fun h => by rw [h, ← hmay]; rfl
      rw [hmay] at hxs hys hB6
      have hen : ∀ y ∈ xs, y.ents.length ≤ 1000 := fun y hy => by
        have h1 := take_ents q may xx.m y.s (by rw [← hxs]; exact List.mem_map_of_mem hy)
        have h2 := (may_com HN.out.2.2.1).2.2
        have h3 := H5.out.2
        have h4 : y.s.ents = y.ents := rfl
        rw [h4] at h1
        omega
      have hfx : xs.length ≤ 2 ∧ ys.length ≤ 1 := by
        have h1 := take_few q may xx.m
        rw [← hxs, ← hys, List.length_map, List.length_map] at h1
        exact h1
      obtain ⟨G2, hG2⟩ : ∃ G2, bookG (takeS q may xx.m).act G xx.m.stream xx.m.epoch nv = G2 := ⟨_, rfl⟩
      rw [hG2] at hB6 hG
      obtain ⟨may2, hmay2⟩ : ∃ may2, mayL 0 (G2 xx.m.stream) xx.m.epoch nv = may2 := ⟨_, rfl⟩
      rw [hmay2] at hG
      have hTA := take_again q may may2 xx.m HN.out.2.2.1 hG
      rw [← hxs, ← hys] at hTA
      have hst := (stays_applied (xs.map RecV.s) q HN.out.2.2.1).1
      have hI6 := H5.out.1.take hB6 hK6
      obtain ⟨q2, hq2⟩ : ∃ q2, appliedS q (xs.map RecV.s) = q2 := ⟨_, rfl⟩
      rw [hq2] at hTA hst
      have HK := Lib.hid (And.intro hTA (And.intro hmay2 (And.intro hst (And.intro H5.out.2 (And.intro hyo hfx)))))
      have H6 := Lib.hid (And.intro hI6 (And.intro hR (And.intro hM hen)))
      have HQ2 := Lib.hid hq2
      clear hR hM hxs hys hyo hB6 hK6 hmay hG hen hfx hG2 hmay2 hTA hst hI6 hq2 H5
      go_wp2_with ((with_reducible refine at_list ?_); first | refine wpList_load_blk rfl 37 _ rfl _ rfl _ _ _ (H6.out.1.1.2.1) Try.underlying37 rfl rg_info ?_)
      refine (applied_any q s xs A1 d1 w6 H6.out.1.1.2.2.1 H6.out.2.1 (by have := HK.out.2.2.2.2.2.1; omega) H6.out.2.2.2).mono ?_
      rw [HQ2.out]
      rintro e w7 ⟨s7, rfl, hL7, hb7⟩
      have H7 := Lib.hid (And.intro (H6.out.1.keep hb7) (And.intro hL7 (H6.out.2.2.1.keep hb7)))
      clear hL7 hb7 H6 HQ2
      go_wp2_with ((with_reducible refine at_list ?_); first | (with_reducible refine cut_at 43 rfl ?_) | (refine wpList_store_own rfl 37 _ _ rfl _ (rgv q2 s7) rfl rfl _ _ (H7.out.1.1.2.1) rg_info rfl (rgv_one _ _) ?_; intro w8 B8 g8))
      refine Cut.go ?_
      have hM8 := H7.out.2.2.stored H7.out.1.1.2.1 (by simp [rgv]) (fun x hx => (H7.out.2.2.2 x hx |> fun h => h.stored H7.out.1.1.2.1 (by simp [rgv]) g8)) g8
      have H8 := Lib.hid (And.intro (H7.out.1.put H7.out.2.1 B8 g8) hM8)
      clear H7 B8 g8 hM8
      go_wp2_with ((with_reducible refine at_list ?_); first | refine wpList_load_blk rfl 37 _ rfl _ rfl _ _ _ (H8.out.1.1.2.1) Try.underlying37 rfl rg_info ?_ | refine wpList_load_blk rfl 43 _ rfl _ rfl _ _ _ (H8.out.1.2.1) Try.underlying43 rfl mail_info ?_)
      refine (take_any q2 s7 b m (n + 1) 0 G2 xx nv w8 H8.out.1.1.2.2.2.1 (by have := HN.out; unfold maxLen; omega) HN.out.1.1 H8.out.1.1.2.2.1 H8.out.1.2.2 (by have := HK.out.2.2.2.1; omega)).mono ?_
      rintro e w9 ⟨⟨A3, d3, A4, d4, us, zs, rfl, hR9, hM9, hus, hzs, -, hzo⟩, hB9, hK9⟩
      rw [HK.out.2.1] at hus hzs
      obtain rfl : us = [] := List.map_eq_nil_iff.1 (hus.trans HK.out.1.1)
      have hmat : xx.m.kind = 4 → ∀ y, ys = [y] → y.m.kind = 5 → ∃ z, zs = [z] ∧ z.m = y.m ∧ z.o = y.o ∧ z.an = y.an := fun h4 y hy h5 => by
        have h := hzs.trans (HK.out.1.2 h4 y.m (by rw [hy]; rfl) h5)
        obtain ⟨z, hz, e1⟩ : ∃ z, zs = [z] ∧ z.m = y.m := by
          cases zs with
          | nil => cases h
          | cons z zt =>
            cases zt with
            | nil => exact ⟨z, rfl, by injection h⟩
            | cons _ _ => injection h with _ h2; cases h2
        subst hz
        obtain ⟨o1, a1⟩ := hzo z (by simp)
        obtain ⟨o2, a2⟩ := HK.out.2.2.2.2.1 y (by rw [hy]; simp)
        exact ⟨z, rfl, e1, by rw [o1, o2], by rw [a1, a2]⟩
      have HMA := Lib.hid hmat
      have H9 := Lib.hid (And.intro (H8.out.1.take hB9 hK9) (And.intro (H8.out.2.turned H8.out.1.1.2.2.2.1 hK9) hM9))
      have hyl := HK.out.2.2.2.2.2.2
      clear hR9 hM9 hus hzs hzo hB9 hK9 hmat H8 HK
      obtain ⟨wu, hwu⟩ : ∃ wu, w9.drew = wu := ⟨_, rfl⟩
      have hd : Below w9.heap.size w9 wu := by rw [← hwu]; exact (Below.refl _ _).drew
      have HU := Lib.hid (And.intro (H9.out.1.keep hd) (And.intro (H9.out.2.1.keep hd) (H9.out.2.2.keep hd)))
      clear hd H9
      have hm0 : ∀ W, Below wu.heap.size wu W → W.cell? ⟨w.heap.size, 0, none⟩ = some (.int .i64 xx.m.kind) := fun W h => (HU.out.1.2.1.keep h).cell 0
      have hcs : (((xx.m.kind == 4) = false ∧ ∀ W, Below wu.heap.size wu W → W.cell? ⟨w.heap.size, 0, none⟩ = some (.int .i64 xx.m.kind) ∧ True) ∨ ((xx.m.kind == 4) = true ∧ ((ys.length : Int) == 1) = false ∧ ∀ W, Below wu.heap.size wu W → W.cell? ⟨w.heap.size, 0, none⟩ = some (.int .i64 xx.m.kind) ∧ True) ∨
          ∃ (bb oo : Nat) (y : MailV), A2 = some ⟨bb, oo, none⟩ ∧ (xx.m.kind == 4) = true ∧ ((ys.length : Int) == 1) = true ∧ (0 : Int) < (ys.length : Int) ∧ (y.m.kind == 5) = false ∧ ∀ W, Below wu.heap.size wu W → W.cell? ⟨w.heap.size, 0, none⟩ = some (.int .i64 xx.m.kind) ∧ W.cell? ⟨bb, oo, none⟩ = some (.int .i64 y.m.kind)) ∨
          ∃ (bb oo : Nat) (y : MailV) (b2 o2 : Nat) (z : MailV), A2 = some ⟨bb, oo, none⟩ ∧ A4 = some ⟨b2, o2, none⟩ ∧ (xx.m.kind == 4) = true ∧ ((ys.length : Int) == 1) = true ∧ (0 : Int) < (ys.length : Int) ∧ (y.m.kind == 5) = true ∧ ((zs.length : Int) != 1) = false ∧ (0 : Int) < (zs.length : Int) ∧ Hid (z.m = y.m ∧ z.o = y.o ∧ z.an = y.an ∧ LogAt wu wu.heap.size y.es y.m.ents ∧ LogAt wu wu.heap.size z.es z.m.ents) ∧ (∀ W, Below wu.heap.size wu W → W.cell? ⟨w.heap.size, 0, none⟩ = some (.int .i64 xx.m.kind) ∧ W.cell? ⟨bb, oo, none⟩ = some (.int .i64 y.m.kind)) ∧ Hid (∀ W, Below wu.heap.size wu W → W.rangeAt bb oo (mailv y)) ∧ Hid (∀ W, Below wu.heap.size wu W → W.rangeAt b2 o2 (mailv z)) := by
        by_cases k4 : xx.m.kind = 4
        case neg => exact .inl (.inl ⟨beq_eq_false_iff_ne.2 k4, fun W h => ⟨hm0 W h, trivial⟩⟩)
        have k4' : (xx.m.kind == 4) = true := beq_iff_eq.2 k4
        by_cases y1 : ys.length = 1
        case neg => exact .inl (.inr (.inl ⟨k4', beq_eq_false_iff_ne.2 (by omega), fun W h => ⟨hm0 W h, trivial⟩⟩))
        have y1' : ((ys.length : Int) == 1) = true := beq_iff_eq.2 (by omega)
        obtain ⟨bb, oo, y, hA, hy, FR, HL⟩ := HU.out.2.1.range (k := 0) (by omega)
        have hR1 : ∀ W, Below wu.heap.size wu W → W.rangeAt bb oo (mailv y) := fun W h => by
          have h1 := FR W h
          simp only [Nat.zero_mul, Nat.add_zero] at h1
          exact h1
        have hys : ys = [y] := one_of y1 hy.out
        have FA : ∀ W, Below wu.heap.size wu W → W.cell? ⟨w.heap.size, 0, none⟩ = some (.int .i64 xx.m.kind) ∧ W.cell? ⟨bb, oo, none⟩ = some (.int .i64 y.m.kind) := fun W h => ⟨hm0 W h, hR1 W h 0 _ rfl⟩
        by_cases k5 : y.m.kind = 5
        case neg => exact .inl (.inr (.inr ⟨bb, oo, y, hA, k4', y1', by omega, beq_eq_false_iff_ne.2 k5, FA⟩))
        obtain ⟨z, hz, z1, z2, z3⟩ := HMA.out k4 y hys k5
        have hzl : zs.length = 1 := by rw [hz]; rfl
        obtain ⟨b2, o2, z', hA2, hy2, FR2, HL2⟩ := HU.out.2.2.range (k := 0) (by omega)
        obtain rfl : z' = z := by
          have h := hy2.out
          rw [hz] at h
          exact (Option.some.inj h).symm
        have hR2 : ∀ W, Below wu.heap.size wu W → W.rangeAt b2 o2 (mailv z') := fun W h => by
          have h1 := FR2 W h
          simp only [Nat.zero_mul, Nat.add_zero] at h1
          exact h1
        exact .inr ⟨bb, oo, y, b2, o2, z', hA, hA2, k4', y1', by omega, beq_iff_eq.2 k5, bne_one hzl, by omega, Lib.hid ⟨z1, z2, z3, HL.out, HL2.out⟩, FA, Lib.hid hR1, Lib.hid hR2⟩
      clear hm0 HMA
      rcases hcs with hcs | ⟨bb, oo, y, b2, o2, z, rfl, rfl, e1, e2, e3, e4, e5, e6, HZ, FA, HR1, HR2⟩
      case' inl =>
        rcases hcs with ⟨e1, FA⟩ | ⟨e1, e2, FA⟩ | ⟨bb, oo, y, rfl, e1, e2, e3, e4, FA⟩
        all_goals
          try have e3n : 0 < ys.length := by omega
          go_wp2_with fail
          refine wp_region_p ([(0, true), (1, true), (2, true), (3, true), (4, true), (5, true), (6, true), (7, true), (8, true), (9, true), (10, true), (11, true), (12, true), (13, true), (14, true), (15, true), (16, true), (17, true), (18, true), (19, true), (20, true), (21, true), (22, true), (23, true), (24, true), (25, true), (26, false), (27, true), (28, true), (29, true)]) (fun w' => Below wu.heap.size wu w') (by kernel_rfl) rfl (by kernel_rfl) (by kernel_rfl) (by rw [hwu]; exact Below.refl _ _) rfl ?_
          intro KP RP TP hKP hTP hTP'
          simp only [List.append_eq, List.cons_append, List.nil_append, pick, nth]
          rw [hwu]
          go_wp2_with (first
            | (apply SeqP.skip; rfl; simp only [Act.put, List.setIfInBounds_toArray, List.set_cons_zero, List.set_cons_succ])
            | (apply SeqP.call; rfl; rfl; (intro w2 hw; have hw := hTP _ hw; ((obtain ⟨q0, q1⟩ := FA _ hw)); go_simp; exact ⟨rfl, rfl⟩); (intro w2 hw; have hw := hTP _ hw; ((obtain ⟨q0, q1⟩ := FA _ hw)); (first | fail)); simp only [Act.put, List.setIfInBounds_toArray, List.set_cons_zero, List.set_cons_succ])
            | (apply SeqP.pure; rfl; (intro w2 hw; have hw := hTP _ hw; ((obtain ⟨q0, q1⟩ := FA _ hw)); go_simp; with_reducible rfl); simp only [Act.put, List.setIfInBounds_toArray, List.set_cons_zero, List.set_cons_succ])
            | (apply SeqP.split; rfl; rfl; all_goals (intro hc; simp only [hc]; try simp only [beq_iff_eq, decide_eq_true_eq, beq_eq_false_iff_ne, decide_eq_false_iff_not, bne_iff_ne, ne_eq, Bool.not_eq_true', Bool.not_eq_false', Int.not_le, Int.not_lt, bne_eq_false_iff_eq, Bool.or_eq_true, Bool.and_eq_true, Bool.or_eq_false_iff] at hc)))
          apply SeqP.skip_eff
          · rfl
          · exact hTP' _ (Below.refl _ _)
          (try simp only [Act.put, List.setIfInBounds_toArray, List.set_cons_zero, List.set_cons_succ])
          go_wp2_with (first
            | (apply SeqP.skip; rfl; simp only [Act.put, List.setIfInBounds_toArray, List.set_cons_zero, List.set_cons_succ])
            | (apply SeqP.call; rfl; rfl; (intro w2 hw; have hw := hTP _ hw; (skip); go_simp; exact ⟨rfl, rfl⟩); (intro w2 hw; have hw := hTP _ hw; (skip); (first | fail)); simp only [Act.put, List.setIfInBounds_toArray, List.set_cons_zero, List.set_cons_succ])
            | (apply SeqP.pure; rfl; (intro w2 hw; have hw := hTP _ hw; (skip); go_simp; with_reducible rfl); simp only [Act.put, List.setIfInBounds_toArray, List.set_cons_zero, List.set_cons_succ])
            | (apply SeqP.split; rfl; rfl; all_goals (intro hc; simp only [hc]; try simp only [beq_iff_eq, decide_eq_true_eq, beq_eq_false_iff_ne, decide_eq_false_iff_not, bne_iff_ne, ne_eq, Bool.not_eq_true', Bool.not_eq_false', Int.not_le, Int.not_lt, bne_eq_false_iff_eq, Bool.or_eq_true, Bool.and_eq_true, Bool.or_eq_false_iff] at hc)))
          apply SeqP.nil
          refine hKP _ _ (hTP' _ (Below.refl _ _)) ?_
          clear hKP hTP hTP'
          have hbv := Below.refl wu.heap.size wu
          clear hyl
      case' inr =>
          have e3n : 0 < ys.length := by omega
          have e6n : 0 < zs.length := by omega
          go_wp2_with fail
          refine wp_region_p ([(0, true), (1, true), (2, true), (3, true), (4, true), (5, true), (6, true), (7, true), (8, true), (9, true), (10, true), (11, true), (12, true), (13, true), (14, true), (15, true), (16, true), (17, true), (18, true), (19, true), (20, true), (21, true), (22, true), (23, true), (24, true), (25, true), (26, false), (27, true), (28, true), (29, true)]) (fun w' => Below wu.heap.size wu w') (by kernel_rfl) rfl (by kernel_rfl) (by kernel_rfl) (by rw [hwu]; exact Below.refl _ _) rfl ?_
          intro KP RP TP hKP hTP hTP'
          simp only [List.append_eq, List.cons_append, List.nil_append, pick, nth]
          rw [hwu]
          go_wp2_with (first
            | (apply SeqP.skip; rfl; simp only [Act.put, List.setIfInBounds_toArray, List.set_cons_zero, List.set_cons_succ])
            | (apply SeqP.pure; rfl; (intro w9 hw9; have hw9 := hTP _ hw9; exact exec_load_range 43 _ rfl _ _ rfl _ (HR1.out _ hw9) _ Try.underlying43 rfl mail_info); simp only [Act.put, List.setIfInBounds_toArray, List.set_cons_zero, List.set_cons_succ]) | (apply SeqP.pure; rfl; (intro w9 hw9; have hw9 := hTP _ hw9; exact exec_load_range 43 _ rfl _ _ rfl _ (HR2.out _ hw9) _ Try.underlying43 rfl mail_info); simp only [Act.put, List.setIfInBounds_toArray, List.set_cons_zero, List.set_cons_succ])
            | (apply SeqP.call; rfl; rfl; (intro w2 hw; have hw := hTP _ hw; ((obtain ⟨q0, q1⟩ := FA _ hw)); go_simp; exact ⟨rfl, rfl⟩); (intro w2 hw; have hw := hTP _ hw; ((obtain ⟨q0, q1⟩ := FA _ hw)); (first | fail)); simp only [Act.put, List.setIfInBounds_toArray, List.set_cons_zero, List.set_cons_succ])
            | (apply SeqP.pure; rfl; (intro w2 hw; have hw := hTP _ hw; ((obtain ⟨q0, q1⟩ := FA _ hw)); go_simp; with_reducible rfl); simp only [Act.put, List.setIfInBounds_toArray, List.set_cons_zero, List.set_cons_succ])
            | (apply SeqP.split; rfl; rfl; all_goals (intro hc; simp only [hc]; try simp only [beq_iff_eq, decide_eq_true_eq, beq_eq_false_iff_ne, decide_eq_false_iff_not, bne_iff_ne, ne_eq, Bool.not_eq_true', Bool.not_eq_false', Int.not_le, Int.not_lt, bne_eq_false_iff_eq, Bool.or_eq_true, Bool.and_eq_true, Bool.or_eq_false_iff] at hc)))
          apply SeqP.eff
          · rfl
          intro KE hKE
          go_wp2_with fail
          refine (samemail_any y z wu HZ.out.1 HZ.out.2.1 HZ.out.2.2.1 HZ.out.2.2.2.1 HZ.out.2.2.2.2).mono ?_
          rintro e wv ⟨rfl, hbv⟩
          refine hKE _ _ (hTP' _ hbv) ?_
          clear hKE
          go_wp2_with (first
            | (apply SeqP.skip; rfl; simp only [Act.put, List.setIfInBounds_toArray, List.set_cons_zero, List.set_cons_succ])
            | (apply SeqP.call; rfl; rfl; (intro w2 hw; have hw := hTP _ hw; (skip); go_simp; exact ⟨rfl, rfl⟩); (intro w2 hw; have hw := hTP _ hw; (skip); (first | fail)); simp only [Act.put, List.setIfInBounds_toArray, List.set_cons_zero, List.set_cons_succ])
            | (apply SeqP.pure; rfl; (intro w2 hw; have hw := hTP _ hw; (skip); go_simp; with_reducible rfl); simp only [Act.put, List.setIfInBounds_toArray, List.set_cons_zero, List.set_cons_succ])
            | (apply SeqP.split; rfl; rfl; all_goals (intro hc; simp only [hc]; try simp only [beq_iff_eq, decide_eq_true_eq, beq_eq_false_iff_ne, decide_eq_false_iff_not, bne_iff_ne, ne_eq, Bool.not_eq_true', Bool.not_eq_false', Int.not_le, Int.not_lt, bne_eq_false_iff_eq, Bool.or_eq_true, Bool.and_eq_true, Bool.or_eq_false_iff] at hc)))
          apply SeqP.nil
          refine hKP _ _ (hTP' _ (hbv)) ?_
          clear hKP hTP hTP'
          clear hyl
      all_goals
        go_wp2_with fail
        refine abs_code (fun W => Below wu.heap.size wu W) hbv ?_
        clear hbv
        intro wv hbv
        obtain ⟨wx, hwx⟩ : ∃ wx, wv.drew = wx := ⟨_, rfl⟩
        have hd : Below wv.heap.size wv wx := by rw [← hwx]; exact (Below.refl _ _).drew
        have HX := Lib.hid (HU.out.1.keep (below_trans hbv hd hbv.size))
        clear hd HU
        refine wp_region_p ([(0, true), (1, true), (2, true), (3, true), (4, true), (5, true), (7, true), (6, false), (8, false), (9, true), (10, true), (11, false), (12, true), (13, true)]) (fun w' => Below wx.heap.size wx w') (by kernel_rfl) rfl (by kernel_rfl) (by kernel_rfl) (by rw [hwx]; exact Below.refl _ _) rfl ?_
        intro KP RP TP hKP hTP hTP'
        simp only [List.append_eq, List.cons_append, List.nil_append, pick, nth]
        rw [hwx]
        go_wp2_with (first
          | (apply SeqP.skip; rfl; simp only [Act.put, List.setIfInBounds_toArray, List.set_cons_zero, List.set_cons_succ])
          | (apply SeqP.pure; rfl; (intro w9 hw9; have hw9 := hTP _ hw9; exact exec_load_blk 37 _ rfl _ rfl _ _ (HX.out.1.2.1.keep hw9) _ Try.underlying37 rfl rg_info); simp only [Act.put, List.setIfInBounds_toArray, List.set_cons_zero, List.set_cons_succ])
          | (apply SeqP.call; rfl; rfl; (intro w2 hw; have hw := hTP _ hw; (skip); go_simp; exact ⟨rfl, rfl⟩); (intro w2 hw; have hw := hTP _ hw; (skip); (first | fail)); simp only [Act.put, List.setIfInBounds_toArray, List.set_cons_zero, List.set_cons_succ])
          | (apply SeqP.pure; rfl; (intro w2 hw; have hw := hTP _ hw; (skip); go_simp; with_reducible rfl); simp only [Act.put, List.setIfInBounds_toArray, List.set_cons_zero, List.set_cons_succ])
          | (apply SeqP.split; rfl; rfl; all_goals (intro hc; simp only [hc]; try simp only [beq_iff_eq, decide_eq_true_eq, beq_eq_false_iff_ne, decide_eq_false_iff_not, bne_iff_ne, ne_eq, Bool.not_eq_true', Bool.not_eq_false', Int.not_le, Int.not_lt, bne_eq_false_iff_eq, Bool.or_eq_true, Bool.and_eq_true, Bool.or_eq_false_iff] at hc)))
        apply SeqP.eff
        · rfl
        intro KE hKE
        go_wp2_with fail
        refine (applied_any q2 s7 [] A3 d3 wx HX.out.1.2.2.1 Rcs.nil (by simp) (by simp)).mono ?_
        rintro e wy ⟨s9, rfl, hL9, hb9⟩
        refine hKE _ _ (hTP' _ hb9) ?_
        clear hKE
        go_wp2_with (first
          | (apply SeqP.skip; rfl; simp only [Act.put, List.setIfInBounds_toArray, List.set_cons_zero, List.set_cons_succ])
          | (apply SeqP.pure; rfl; (intro w9 hw9; have hw9 := hTP _ hw9; exact exec_load_blk 37 _ rfl _ rfl _ _ (HX.out.1.2.1.keep hw9) _ Try.underlying37 rfl rg_info); simp only [Act.put, List.setIfInBounds_toArray, List.set_cons_zero, List.set_cons_succ])
          | (apply SeqP.call; rfl; rfl; (intro w2 hw; have hw := hTP _ hw; (skip); go_simp; exact ⟨rfl, rfl⟩); (intro w2 hw; have hw := hTP _ hw; (skip); (first | fail)); simp only [Act.put, List.setIfInBounds_toArray, List.set_cons_zero, List.set_cons_succ])
          | (apply SeqP.pure; rfl; (intro w2 hw; have hw := hTP _ hw; (skip); go_simp; with_reducible rfl); simp only [Act.put, List.setIfInBounds_toArray, List.set_cons_zero, List.set_cons_succ])
          | (apply SeqP.split; rfl; rfl; all_goals (intro hc; simp only [hc]; try simp only [beq_iff_eq, decide_eq_true_eq, beq_eq_false_iff_ne, decide_eq_false_iff_not, bne_iff_ne, ne_eq, Bool.not_eq_true', Bool.not_eq_false', Int.not_le, Int.not_lt, bne_eq_false_iff_eq, Bool.or_eq_true, Bool.and_eq_true, Bool.or_eq_false_iff] at hc)))
        apply SeqP.eff
        · rfl
        intro KE hKE
        go_wp2_with fail
        refine (samereg_any (appliedS q2 (([] : List RecV).map RecV.s)) q2 s9 s7 wy hL9 (HX.out.1.2.2.1.keep hb9) rfl).mono ?_
        rintro e wz ⟨rfl, hb10⟩
        have hbz := below_trans hb9 hb10 hb9.size
        refine hKE _ _ (hTP' _ hbz) ?_
        clear hKE
        go_wp2_with (first
          | (apply SeqP.skip; rfl; simp only [Act.put, List.setIfInBounds_toArray, List.set_cons_zero, List.set_cons_succ])
          | (apply SeqP.call; rfl; rfl; (intro w2 hw; have hw := hTP _ hw; (skip); go_simp; exact ⟨rfl, rfl⟩); (intro w2 hw; have hw := hTP _ hw; (skip); (first | fail)); simp only [Act.put, List.setIfInBounds_toArray, List.set_cons_zero, List.set_cons_succ])
          | (apply SeqP.pure; rfl; (intro w2 hw; have hw := hTP _ hw; (skip); go_simp; with_reducible rfl); simp only [Act.put, List.setIfInBounds_toArray, List.set_cons_zero, List.set_cons_succ])
          | (apply SeqP.split; rfl; rfl; all_goals (intro hc; simp only [hc]; try simp only [beq_iff_eq, decide_eq_true_eq, beq_eq_false_iff_ne, decide_eq_false_iff_not, bne_iff_ne, ne_eq, Bool.not_eq_true', Bool.not_eq_false', Int.not_le, Int.not_lt, bne_eq_false_iff_eq, Bool.or_eq_true, Bool.and_eq_true, Bool.or_eq_false_iff] at hc)))
        apply SeqP.eff
        · rfl
        intro KE hKE
        go_wp2_with fail
        refine (lives19_any wz).mono ?_
        rintro e w12 ⟨rfl, hb11⟩
        have hbq := below_trans hbz hb11 hbz.size
        refine hKE _ _ (hTP' _ hbq) ?_
        clear hKE
        go_wp2_with (first
          | (apply SeqP.skip; rfl; simp only [Act.put, List.setIfInBounds_toArray, List.set_cons_zero, List.set_cons_succ])
          | (apply SeqP.call; rfl; rfl; (intro w2 hw; have hw := hTP _ hw; (skip); go_simp; exact ⟨rfl, rfl⟩); (intro w2 hw; have hw := hTP _ hw; (skip); (first | fail)); simp only [Act.put, List.setIfInBounds_toArray, List.set_cons_zero, List.set_cons_succ])
          | (apply SeqP.pure; rfl; (intro w2 hw; have hw := hTP _ hw; (skip); go_simp; with_reducible rfl); simp only [Act.put, List.setIfInBounds_toArray, List.set_cons_zero, List.set_cons_succ])
          | (apply SeqP.split; rfl; rfl; all_goals (intro hc; simp only [hc]; try simp only [beq_iff_eq, decide_eq_true_eq, beq_eq_false_iff_ne, decide_eq_false_iff_not, bne_iff_ne, ne_eq, Bool.not_eq_true', Bool.not_eq_false', Int.not_le, Int.not_lt, bne_eq_false_iff_eq, Bool.or_eq_true, Bool.and_eq_true, Bool.or_eq_false_iff] at hc)))
        apply SeqP.nil
        refine hKP _ _ (hTP' _ (hbq)) ?_
        clear hKP hTP hTP'
        have hfin := below_trans HX.out.1.1 hbq HX.out.1.1.size
        go_wp2_with fail
        go_ret
        exact ⟨rfl, hfin⟩
end Go.Proofs.Ytdphfhenjndkkaa

set_option linter.unusedSimpArgs false
set_option linter.unusedVariables false
set_option maxRecDepth 100000
namespace Go.Sq
open Go Go.ChangeShapes Go.WideShapes Go.RowKit Go.Deep
section
variable {H : Type} {enc : TypeId × Value → H} {P : Program} {w : World} {base : Nat} {spare : Nat → Bool} {held : Bool}
theorem open_rows_in {k : Nat} {t e : TypeId} {C : Nat} {v : Value} {y : DataW H × List MemPlace} (ht : P.underlying t = some (.slice e))
    (hC : P.cellsOf e = C) (hpos : 0 < C) (h : DataW.trod enc P w base spare held k t [v] = some y) :
    ∃ (a : Option Addr) (len cap : Nat), v = .slice a len cap ∧ len ≤ cap ∧ cap ≤ maxLen ∧ (0 < len → ∃ b off, a = some ⟨b, off, none⟩ ∧ b < w.heap.size ∧ ∀ i, i < len →
      ∃ (cs : List Value) (n : Nat) (y : DataW H × List MemPlace), cs.length = C ∧ (∀ k, k < C → w.cell? ⟨b, off + i * C + k, none⟩ = cs[k]?) ∧ DataW.trod enc P w base spare held n e cs = some y) := by
  rcases open_slice ht h with ⟨hcs, _⟩ | ⟨a, l, c, m, n, D, Pl, hcs, _, hl, hm, hmm, _, hi⟩
  · cases hcs
    exact ⟨none, 0, 0, rfl, Nat.le_refl _, by simp [maxLen], fun h => absurd h (by omega)⟩
  · cases hcs
    refine ⟨some a, l, c, rfl, hl, hm, fun hlen => ?_⟩
    obtain ⟨b, off, rfl, hbl⟩ : ∃ b off, a = ⟨b, off, none⟩ ∧ b < w.heap.size := by
      obtain ⟨cs', hc, _⟩ := hi 0 (by rw [hmm]; split <;> omega)
      rw [hC] at hc
      obtain ⟨_, hcl, hat⟩ := World.cells?_some hc
      have h0 := hat 0 hpos
      rw [List.getElem?_eq_getElem (show 0 < cs'.length by omega)] at h0
      have hsp : a.spot = none := by simpa [Addr.add] using World.cell?_spot h0
      have hbl := World.block_lt_of_cell? _ _ h0
      rw [add_block, add_block] at hbl
      obtain ⟨b, off, spot⟩ := a
      obtain rfl : spot = none := hsp
      exact ⟨b, off, rfl, hbl⟩
    refine ⟨b, off, rfl, hbl, fun i hil => ?_⟩
    obtain ⟨cs', hc, ht'⟩ := hi i (by rw [hmm]; split <;> omega)
    rw [hC] at hc
    obtain ⟨_, hcl, hat⟩ := World.cells?_some hc
    refine ⟨cs', n, _, hcl, fun k hk => ?_, ht'⟩
    have h3 := hat k hk
    rw [add_none, add_none] at h3
    exact h3
end
end Go.Sq

set_option linter.unusedSimpArgs false
set_option linter.unusedVariables false
set_option maxRecDepth 100000
namespace Go.Proofs.Ytdphfhenjndkkaa
open Go Go.ChangeShapes Go.WideShapes Go.RowKit Go.Deep Go.Sq Go.Wd Go.Arch
section
variable {H : Type} {enc : TypeId × Value → H} {w : World} {base : Nat} {spare : Nat → Bool} {held : Bool}

theorem open_log {k : Nat} {v : Value} {y : DataW H × List MemPlace} (h : DataW.trod enc Try.prog w base spare held k 35 [v] = some y) :
    ∃ (sl : SlcE) (es : List Ent), v = .slice sl.1 sl.2.1 sl.2.2 ∧ LogAt w w.heap.size sl es ∧ ∀ e ∈ es, wfEnt e := by
  obtain ⟨A, len, cap, rfl, h1, h2, h3⟩ := open_rows_in Try.underlying35 (C := 6) (by kernel_rfl) (by omega) h
  have h2' : cap ≤ 9223372036854775807 := by simp only [maxLen] at h2; omega
  rcases Nat.eq_zero_or_pos len with h0 | h0
  · subst h0
    exact ⟨(A, 0, cap), [], rfl, ⟨rfl, h1, h2', Ents.nil⟩, by simp⟩
  · obtain ⟨b, off, rfl, hb, hrow⟩ := h3 h0
    obtain ⟨l, hl, hp⟩ := list_of (p := fun i e => EntAt w b (off + i * 6) e ∧ wfEnt e) len (fun i hi => by
      obtain ⟨cs, n, y, hcl, hcell, ht⟩ := hrow i hi
      obtain ⟨e, rfl, hw⟩ := open_ent ht
      exact ⟨e, ⟨hcell 0 (by omega), hcell 1 (by omega), hcell 2 (by omega), hcell 3 (by omega), hcell 4 (by omega), hcell 5 (by omega)⟩, hw⟩)
    subst hl
    refine ⟨(some ⟨b, off, none⟩, l.length, cap), l, rfl, ⟨rfl, h1, h2', fun _ => ⟨b, off, rfl, hb, fun i e he => (hp i e he).1⟩⟩, fun e he => ?_⟩
    obtain ⟨i, hi⟩ := List.getElem?_of_mem he
    exact (hp i e hi).2
theorem open_any_slice {k : Nat} {t e : TypeId} {v : Value} {y : DataW H × List MemPlace} (ht : Try.prog.underlying t = some (.slice e)) (h : DataW.trod enc Try.prog w base spare held k t [v] = some y) : ∃ sl : SlcE, v = .slice sl.1 sl.2.1 sl.2.2 := by
  rcases open_slice ht h with ⟨hcs, _⟩ | ⟨a, l, c, m, n, D, Pl, hcs, _⟩
  · cases hcs
    exact ⟨(none, 0, 0), rfl⟩
  · cases hcs
    exact ⟨(some a, l, c), rfl⟩
theorem rec_fields {fs : Array Field} (hs : Try.prog.underlying 53 = some (.struct fs)) {n : Nat} {cs : List Value} (hl : cs.length = fs.size)
    (hf : ∀ (j : Nat) (f : Field), fs[j]? = some f → ∃ (c : Value) (y : DataW H × List MemPlace), cs[j]? = some c ∧ DataW.trod enc Try.prog w base spare held n f.type [c] = some y) :
    ∃ x : RecV, cs = rcv x ∧ LogAt w w.heap.size x.es x.ents ∧ ∀ e ∈ x.ents, wfEnt e := by
  rw [Try.underlying53] at hs
  cases hs
  obtain ⟨c0, c1, c2, c3, c4, c5, c6, c7, rfl⟩ := len8 hl
  obtain ⟨_, _, e0, t0⟩ := hf 0 _ rfl
  obtain ⟨_, _, e1, t1⟩ := hf 1 _ rfl
  obtain ⟨_, _, e2, t2⟩ := hf 2 _ rfl
  obtain ⟨_, _, e3, t3⟩ := hf 3 _ rfl
  obtain ⟨_, _, e4, t4⟩ := hf 4 _ rfl
  obtain ⟨_, _, e5, t5⟩ := hf 5 _ rfl
  obtain ⟨_, _, e6, t6⟩ := hf 6 _ rfl
  obtain ⟨_, _, e7, t7⟩ := hf 7 _ rfl
  cases e0; cases e1; cases e2; cases e3; cases e4; cases e5; cases e6; cases e7
  obtain ⟨z0, q0, _, _⟩ := DataW.trod_int Try.underlying3 t0
  obtain ⟨z1, q1, _, _⟩ := DataW.trod_int Try.underlying3 t1
  obtain ⟨z2, q2, _, _⟩ := DataW.trod_int Try.underlying3 t2
  obtain ⟨z3, q3, _, _⟩ := DataW.trod_int Try.underlying3 t3
  obtain ⟨z4, q4, _, _⟩ := DataW.trod_int Try.underlying3 t4
  obtain ⟨z5, q5, _, _⟩ := DataW.trod_int Try.underlying3 t5
  cases q0; cases q1; cases q2; cases q3; cases q4; cases q5
  obtain ⟨sl, es, rfl, hE, hw⟩ := open_log t6
  obtain ⟨fs, rfl⟩ := open_any_slice Try.underlying51 t7
  exact ⟨⟨z0, z1, z2, z3, z4, z5, sl, es, fs⟩, rfl, hE, hw⟩
theorem reg_fields {fs : Array Field} (hs : Try.prog.underlying 37 = some (.struct fs)) {n : Nat} {cs : List Value} (hl : cs.length = fs.size)
    (hf : ∀ (j : Nat) (f : Field), fs[j]? = some f → ∃ (c : Value) (y : DataW H × List MemPlace), cs[j]? = some c ∧ DataW.trod enc Try.prog w base spare held n f.type [c] = some y) :
    ∃ (r : RegS) (sl : SlcE), cs = rgv r sl ∧ LogAt w w.heap.size sl r.log ∧ ∀ e ∈ r.log, wfEnt e := by
  rw [Try.underlying37] at hs
  cases hs
  obtain ⟨c0, c1, c2, c3, rfl⟩ := len4 hl
  obtain ⟨_, _, e0, t0⟩ := hf 0 _ rfl
  obtain ⟨_, _, e1, t1⟩ := hf 1 _ rfl
  obtain ⟨_, _, e2, t2⟩ := hf 2 _ rfl
  obtain ⟨_, _, e3, t3⟩ := hf 3 _ rfl
  cases e0; cases e1; cases e2; cases e3
  obtain ⟨z0, q0, _, _⟩ := DataW.trod_int Try.underlying3 t0
  obtain ⟨z1, q1, _, _⟩ := DataW.trod_int Try.underlying3 t1
  obtain ⟨z3, q3, _, _⟩ := DataW.trod_int Try.underlying3 t3
  cases q0; cases q1; cases q3
  obtain ⟨sl, es, rfl, hE, hw⟩ := open_log t2
  exact ⟨⟨z0, z1, es, z3⟩, sl, rfl, hE, hw⟩
theorem open_rec_cells {n : Nat} {cs : List Value} {y : DataW H × List MemPlace} (h : DataW.trod enc Try.prog w base spare held n 53 cs = some y) : ∃ x : RecV, cs = rcv x ∧ LogAt w w.heap.size x.es x.ents ∧ ∀ e ∈ x.ents, wfEnt e := by
  obtain ⟨hl, m, hf⟩ := cells_fields Try.underlying53 (by kernel_rfl) (by kernel_rfl) h
  exact rec_fields Try.underlying53 hl hf
theorem open_rec {r : Reach} {b0 : Nat} {v : Value} {d : DataW H} {p : List MemPlace} (hv : Value.okWide Try.prog w r b0 53 v) (h : DataW.Trod enc Try.prog w base spare held 53 v d p) :
    ∃ x : RecV, v = .agg (rcv x).toArray ∧ LogAt w w.heap.size x.es x.ents ∧ ∀ e ∈ x.ents, wfEnt e := by
  obtain ⟨l, m, rfl, hl, hf⟩ := open_fields Try.underlying53 (by kernel_rfl) (by kernel_rfl) hv h
  obtain ⟨x, rfl, hx⟩ := rec_fields Try.underlying53 hl hf
  exact ⟨x, rfl, hx⟩
theorem open_register {r : Reach} {b0 : Nat} {v : Value} {d : DataW H} {p : List MemPlace} (hv : Value.okWide Try.prog w r b0 37 v) (h : DataW.Trod enc Try.prog w base spare held 37 v d p) :
    ∃ (r : RegS) (sl : SlcE), v = .agg (rgv r sl).toArray ∧ LogAt w w.heap.size sl r.log ∧ ∀ e ∈ r.log, wfEnt e := by
  obtain ⟨l, m, rfl, hl, hf⟩ := open_fields Try.underlying37 (by kernel_rfl) (by kernel_rfl) hv h
  obtain ⟨x, sl, rfl, hx⟩ := reg_fields Try.underlying37 hl hf
  exact ⟨x, sl, rfl, hx⟩
theorem open_recs {r : Reach} {b0 : Nat} {v : Value} {d : DataW H} {p : List MemPlace} (hv : Value.okWide Try.prog w r b0 44 v) (h : DataW.Trod enc Try.prog w base spare held 44 v d p) :
    ∃ (A : Option Addr) (l : List RecV) (c : Nat), v = .slice A l.length c ∧ l.length ≤ c ∧ c ≤ 9223372036854775807 ∧ Recs w w.heap.size A l := by
  obtain ⟨A, len, cap, rfl, h1, h2, h3⟩ := open_rows_any Try.underlying44 (C := 8) (by kernel_rfl) (by omega) hv h
  have h2' : cap ≤ 9223372036854775807 := by simp only [maxLen] at h2; omega
  rcases Nat.eq_zero_or_pos len with h0 | h0
  · subst h0
    exact ⟨A, [], cap, rfl, h1, h2', by simp, fun h => absurd h (by simp)⟩
  · obtain ⟨b, off, rfl, hb, hrow⟩ := h3 h0
    obtain ⟨l, hl, hp⟩ := list_of (p := fun i e => RecAt w b (off + i * 8) e ∧ LogAt w w.heap.size e.es e.ents) len (fun i hi => by
      obtain ⟨cs, n, y, hcl, hcell, ht⟩ := hrow i hi
      obtain ⟨x, rfl, hE, _⟩ := open_rec_cells ht
      exact ⟨x, ⟨hcell 0 (by omega), hcell 1 (by omega), hcell 2 (by omega), hcell 3 (by omega), hcell 4 (by omega), hcell 5 (by omega), hcell 6 (by omega), hcell 7 (by omega)⟩, hE⟩)
    subst hl
    refine ⟨_, l, cap, rfl, h1, h2', fun x hx => ?_, fun _ => ⟨b, off, rfl, hb, fun i e he => (hp i e he).1⟩⟩
    obtain ⟨i, hi⟩ := List.getElem?_of_mem hx
    exact (hp i x hi).2
end
end Go.Proofs.Ytdphfhenjndkkaa

set_option linter.unusedSimpArgs false
set_option linter.unusedVariables false
set_option maxRecDepth 100000
namespace Go.Sq
open Go Go.ChangeShapes Go.WideShapes Go.RowKit Go.Deep
section
variable {H : Type} {enc : TypeId × Value → H} {P : Program} {w : World} {base : Nat} {spare : Nat → Bool} {held : Bool}

theorem ints_of {n k : Nat} {t : TypeId} {fs : Array Field} {l : List Value} {x : DataW H × List MemPlace} (hs : P.underlying t = some (.struct fs)) (hone : oneCellFields P fs = true)
    (hC : P.cellsOf t = fs.size) (h5 : fs.size = k) (hty : ∀ (j : Nat) (f : Field), fs[j]? = some f → P.underlying f.type = some (.int .i64)) (h : DataW.trod enc P w base spare held n t l = some x) :
    ∃ zs : List Int, zs.length = k ∧ l = zs.map (.int .i64) ∧ ∀ z ∈ zs, (Lit.int .i64 z).wf = true := by
  obtain ⟨hl, m, hf⟩ := cells_fields hs hone hC h
  rw [h5] at hl
  obtain ⟨zs, hz, hp⟩ := list_of (p := fun i z => l[i]? = some (.int .i64 z) ∧ (Lit.int .i64 z).wf = true) k (fun j hj => by
    have hj' : j < fs.size := by omega
    obtain ⟨c', y, h1, h2⟩ := hf j _ (Array.getElem?_eq_getElem hj')
    obtain ⟨z, hz, _, hw⟩ := DataW.trod_int (hty j _ (Array.getElem?_eq_getElem hj')) h2
    obtain rfl : c' = .int .i64 z := by simpa using hz
    exact ⟨z, h1, hw⟩)
  refine ⟨zs, hz, List.ext_getElem? (fun i => ?_), fun z hzm => ?_⟩
  · rw [List.getElem?_map]
    by_cases hi : i < k
    · have := (hp i zs[i] (List.getElem?_eq_getElem (by omega))).1
      rw [this, List.getElem?_eq_getElem (by omega)]
      rfl
    · rw [List.getElem?_eq_none (by omega), List.getElem?_eq_none (by omega)]
      rfl
  · obtain ⟨i, hi, rfl⟩ := List.mem_iff_getElem.1 hzm
    exact (hp i _ (List.getElem?_eq_getElem hi)).2
end
end Go.Sq

set_option linter.unusedSimpArgs false
set_option linter.unusedVariables false
set_option maxRecDepth 100000
namespace Go.Sq
open Go Go.ChangeShapes Go.WideShapes Go.RowKit Go.Deep
section
variable {H : Type} {enc : TypeId × Value → H} {P : Program} {w : World} {base : Nat} {spare : Nat → Bool} {held : Bool} {α : Type}

theorem open_sl_in (R : Gr.Enc P α) {q : α → Prop} {k : Nat} {v : Value} {y : DataW H × List MemPlace} (hC : P.cellsOf R.elem = R.size)
    (hdec : ∀ (n : Nat) (cs : List Value) (y : DataW H × List MemPlace), DataW.trod enc P w base spare held n R.elem cs = some y → ∃ a, cs = R.enc a ∧ q a)
    (h : DataW.trod enc P w base spare held k R.slice [v] = some y) :
    ∃ (A : Option Addr) (l : List α) (c : Nat), v = .slice A l.length c ∧ l.length ≤ c ∧ c ≤ 9223372036854775807 ∧ Gr.Sl R w w.heap.size A l ∧ (∀ a ∈ l, q a) ∧ (A = none → c = 0) := by
  obtain ⟨A, len, cap, rfl, h1, h2, h3⟩ := open_rows_in R.und hC R.pos h
  have h2' : cap ≤ 9223372036854775807 := by simp only [maxLen] at h2; omega
  have hnil : A = none → cap = 0 := fun e => by
    subst e
    rcases open_slice R.und h with ⟨hcs, _⟩ | ⟨a, l, c, m, n, D, Pl, hcs, _⟩
    · injection hcs with hcs
      injection hcs
    · injection hcs with hcs
      injection hcs with h
      cases h
  rcases Nat.eq_zero_or_pos len with h0 | h0
  · subst h0
    exact ⟨A, [], cap, rfl, h1, h2', Gr.Sl.nil, by simp, hnil⟩
  · obtain ⟨b, off, rfl, hb, hrow⟩ := h3 h0
    obtain ⟨l, hl, hp⟩ := list_of (p := fun i e => Gr.At R w b (off + i * R.size) e ∧ q e) len (fun i hi => by
      obtain ⟨cs, n, y, hcl, hcell, ht⟩ := hrow i hi
      obtain ⟨a, rfl, hq⟩ := hdec n cs y ht
      exact ⟨a, fun k hk => hcell k hk, hq⟩)
    subst hl
    refine ⟨some ⟨b, off, none⟩, l, cap, rfl, h1, h2', fun _ => ⟨b, off, rfl, hb, fun i e he => (hp i e he).1⟩, fun a ha => ?_, hnil⟩
    obtain ⟨i, hi⟩ := List.getElem?_of_mem ha
    exact (hp i a hi).2
theorem open_sl (R : Gr.Enc P α) {q : α → Prop} {r : Reach} {b0 : Nat} {v : Value} {d : DataW H} {p : List MemPlace} (hC : P.cellsOf R.elem = R.size)
    (hdec : ∀ (n : Nat) (cs : List Value) (y : DataW H × List MemPlace), DataW.trod enc P w base spare held n R.elem cs = some y → ∃ a, cs = R.enc a ∧ q a)
    (hv : Value.okWide P w r b0 R.slice v) (h : DataW.Trod enc P w base spare held R.slice v d p) :
    ∃ (A : Option Addr) (l : List α) (c : Nat), v = .slice A l.length c ∧ l.length ≤ c ∧ c ≤ 9223372036854775807 ∧ Gr.Sl R w w.heap.size A l ∧ (∀ a ∈ l, q a) ∧ (A = none → c = 0) := by
  obtain ⟨a0, len, cap, rfl⟩ := okWide_slice R.und hv
  obtain ⟨fuel, hf⟩ := h
  exact open_sl_in R hC hdec (by simpa [Value.cells] using hf)
end
end Go.Sq

set_option linter.unusedSimpArgs false
set_option linter.unusedVariables false
set_option maxRecDepth 100000
namespace Go.Proofs.Ytdphfhenjndkkaa
open Go Go.ChangeShapes Go.WideShapes Go.RowKit Go.Deep Go.Sq Go.Wd Go.Arch
section
variable {H : Type} {enc : TypeId × Value → H} {w : World} {base : Nat} {spare : Nat → Bool} {held : Bool}

theorem len18 {α : Type} {l : List α} (h : l.length = 18) : ∃ a0 a1 a2 a3 a4 a5 a6 a7 a8 a9 b0 b1 b2 b3 b4 b5 b6 b7, l = [a0, a1, a2, a3, a4, a5, a6, a7, a8, a9, b0, b1, b2, b3, b4, b5, b6, b7] := by
  match l, h with
  | [a0, a1, a2, a3, a4, a5, a6, a7, a8, a9, b0, b1, b2, b3, b4, b5, b6, b7], _ => exact ⟨a0, a1, a2, a3, a4, a5, a6, a7, a8, a9, b0, b1, b2, b3, b4, b5, b6, b7, rfl⟩

set_option maxHeartbeats 2000000 in
theorem open_mail {n : Nat} {cs : List Value} {y : DataW H × List MemPlace} (h : DataW.trod enc Try.prog w base spare held n 43 cs = some y) : ∃ x : MailV, cs = mailv x ∧ LogAt w w.heap.size x.es x.m.ents := by
  have hC : Try.prog.cellsOf 43 = 18 := by kernel_rfl
  have hCi : Try.prog.cellsOf 3 = 1 := by kernel_rfl
  have hCe : Try.prog.cellsOf 35 = 1 := by kernel_rfl
  have hCo : Try.prog.cellsOf 39 = 5 := by kernel_rfl
  have hCa : Try.prog.cellsOf 41 = 3 := by kernel_rfl
  obtain ⟨xs, m, _, _, hl, hlen, hg⟩ := DataW.trod_struct Try.underlying43 h
  rw [hC] at hl
  obtain ⟨c0, c1, c2, c3, c4, c5, c6, c7, c8, c9, b0, b1, b2, b3, b4, b5, b6, b7, rfl⟩ := len18 hl
  have hx : xs.length = 12 := hlen
  have h0 := hg 0 _ rfl
  have h1 := hg 1 _ rfl
  have h2 := hg 2 _ rfl
  have h3 := hg 3 _ rfl
  have h4 := hg 4 _ rfl
  have h5 := hg 5 _ rfl
  have h6 := hg 6 _ rfl
  have h7 := hg 7 _ rfl
  have h8 := hg 8 _ rfl
  have h9 := hg 9 _ rfl
  have h10 := hg 10 _ rfl
  have h11 := hg 11 _ rfl
  simp only [List.getElem_toArray, List.getElem_cons_zero, List.getElem_cons_succ] at h0 h1 h2 h3 h4 h5 h6 h7 h8 h9 h10 h11
  rw [hCi] at h0
  rw [hCi] at h1
  rw [hCi] at h2
  rw [hCi] at h3
  rw [hCi] at h4
  rw [hCi] at h5
  rw [hCi] at h6
  rw [hCi] at h7
  rw [hCi] at h8
  rw [hCe] at h9
  rw [hCo] at h10
  rw [hCa] at h11
  simp only [List.drop_zero, List.take_succ_cons, List.take_zero, List.drop_succ_cons] at h0 h1 h2 h3 h4 h5 h6 h7 h8 h9 h10 h11
  rw [List.getElem?_eq_getElem (show 0 < xs.length by omega)] at h0
  rw [List.getElem?_eq_getElem (show 1 < xs.length by omega)] at h1
  rw [List.getElem?_eq_getElem (show 2 < xs.length by omega)] at h2
  rw [List.getElem?_eq_getElem (show 3 < xs.length by omega)] at h3
  rw [List.getElem?_eq_getElem (show 4 < xs.length by omega)] at h4
  rw [List.getElem?_eq_getElem (show 5 < xs.length by omega)] at h5
  rw [List.getElem?_eq_getElem (show 6 < xs.length by omega)] at h6
  rw [List.getElem?_eq_getElem (show 7 < xs.length by omega)] at h7
  rw [List.getElem?_eq_getElem (show 8 < xs.length by omega)] at h8
  rw [List.getElem?_eq_getElem (show 9 < xs.length by omega)] at h9
  rw [List.getElem?_eq_getElem (show 10 < xs.length by omega)] at h10
  rw [List.getElem?_eq_getElem (show 11 < xs.length by omega)] at h11
  obtain ⟨z0, q0, _, _⟩ := DataW.trod_int Try.underlying3 h0
  obtain ⟨z1, q1, _, _⟩ := DataW.trod_int Try.underlying3 h1
  obtain ⟨z2, q2, _, _⟩ := DataW.trod_int Try.underlying3 h2
  obtain ⟨z3, q3, _, _⟩ := DataW.trod_int Try.underlying3 h3
  obtain ⟨z4, q4, _, _⟩ := DataW.trod_int Try.underlying3 h4
  obtain ⟨z5, q5, _, _⟩ := DataW.trod_int Try.underlying3 h5
  obtain ⟨z6, q6, _, _⟩ := DataW.trod_int Try.underlying3 h6
  obtain ⟨z7, q7, _, _⟩ := DataW.trod_int Try.underlying3 h7
  obtain ⟨z8, q8, _, _⟩ := DataW.trod_int Try.underlying3 h8
  cases q0; cases q1; cases q2; cases q3; cases q4; cases q5; cases q6; cases q7; cases q8
  obtain ⟨sl, es, rfl, hE, _⟩ := open_log h9
  obtain ⟨a, b, c, d, e, h5, _⟩ := five_of (ti := 3) Try.underlying39 (by kernel_rfl) (by kernel_rfl) rfl (by
    intro j f hf
    have hj : j < 5 := (Array.getElem?_eq_some_iff.1 hf).1
    obtain rfl | rfl | rfl | rfl | rfl : j = 0 ∨ j = 1 ∨ j = 2 ∨ j = 3 ∨ j = 4 := by omega
    all_goals
      cases hf
      exact Try.underlying3) h10
  cases h5
  obtain ⟨zs, hz, h6, _⟩ := ints_of (k := 3) Try.underlying41 (by kernel_rfl) (by kernel_rfl) rfl (by
    intro j f hf
    have hj : j < 3 := (Array.getElem?_eq_some_iff.1 hf).1
    obtain rfl | rfl | rfl : j = 0 ∨ j = 1 ∨ j = 2 := by omega
    all_goals
      cases hf
      exact Try.underlying3) h11
  obtain ⟨u0, u1, u2, rfl⟩ := len3 hz
  simp only [List.map_cons, List.map_nil] at h6
  cases h6
  exact ⟨⟨⟨z0, z1, z2, z3, z4, z5, z6, z7, z8, es⟩, sl, (a, b, c, d, e), (u0, u1, u2)⟩, rfl, hE⟩

/-- A slice of mail that comes in. -/
theorem open_mails {r : Reach} {b0 : Nat} {v : Value} {d : DataW H} {p : List MemPlace} (hv : Value.okWide Try.prog w r b0 22 v) (h : DataW.Trod enc Try.prog w base spare held 22 v d p) :
    ∃ (A : Option Addr) (l : List MailV) (c : Nat), v = .slice A l.length c ∧ l.length ≤ c ∧ c ≤ 9223372036854775807 ∧ Mails w w.heap.size A l := by
  obtain ⟨A, l, c, rfl, h1, h2, h3, h4, _⟩ := open_sl mailE (q := fun x => LogAt w w.heap.size x.es x.m.ents) (by kernel_rfl) (fun n cs y h => open_mail h) hv h
  exact ⟨A, l, c, rfl, h1, h2, h3, h4⟩
/-- One piece of mail that comes in. -/
theorem open_mail_one {r : Reach} {b0 : Nat} {v : Value} {d : DataW H} {p : List MemPlace} (hv : Value.okWide Try.prog w r b0 43 v) (h : DataW.Trod enc Try.prog w base spare held 43 v d p) :
    ∃ x : MailV, v = .agg (mailv x).toArray ∧ LogAt w w.heap.size x.es x.m.ents := by
  obtain ⟨⟨l⟩, rfl, hsz⟩ := okWide_struct Try.underlying43 hv
  obtain ⟨fuel, hf⟩ := h
  obtain ⟨x, he, hw⟩ := open_mail (cs := l) hf
  subst he
  exact ⟨x, rfl, hw⟩
end
end Go.Proofs.Ytdphfhenjndkkaa
