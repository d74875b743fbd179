/-
  The walk over the statement ReplicasTake.
  A slice within a struct that comes in.
  Registers and records that come in.
  Structs of numbers that come in, of any number of fields.
  Slices of structs that come in, whatever struct.
  Mail that comes in, and what a ballot begins with.
-/
import Derived.Test.YtdphfhenjndkkaaReplicasTakeK1
import Derived.Test.YtdphfhenjndkkaaReplicasTakeK2
import Derived.Test.YtdphfhenjndkkaaReplicasTakeK3
import Derived.Test.YtdphfhenjndkkaaReplicasTakeK4
import Derived.Test.YtdphfhenjndkkaaReplicasTakeK5
import Derived.Test.YtdphfhenjndkkaaReplicasTakeK6
import Derived.Test.YtdphfhenjndkkaaReplicasTakeK7
import Derived.Test.YtdphfhenjndkkaaReplicasTakeK8
import Derived.Test.YtdphfhenjndkkaaReplicasTakeK9
set_option linter.unusedSimpArgs false
set_option linter.unusedVariables false
set_option maxRecDepth 100000
namespace Go.Proofs.Ytdphfhenjndkkaa
open Go Go.RowKit Go.Sq Go.Wd Go.Arch Go.Im

set_option maxHeartbeats 16000000 in
theorem replicasTake_walk (l : List MailV) (A : Option Addr) (c : Nat) (ts : List Int) (At_ : Option Addr) (ct : Nat) (re : Bool) (w : World) (hl : Mails w w.heap.size A l) (hn : l.length ≤ 9223372036854775807) (ht : Nums w w.heap.size At_ .u8 ts) (htn : ts.length ≤ 9223372036854775807) (ht8 : ∀ k ∈ ts, 0 ≤ k ∧ k ≤ 255) :
    Calls Try.prog 3 #[.slice A l.length c, .slice At_ ts.length ct, .bool re] w fun e w' => e = .returned (.bool true) ∧ Below w.heap.size w w' := by
  have HE := Lib.hid (And.intro hl (And.intro ht ht8))
  clear hl ht ht8
  go_enter Try.func3, Try.ntmps3
  go_wp2_with fail
  refine (beyond19_any l A c w HE.out.1 hn).mono ?_
  rintro e w1 ⟨y, rfl, hfew, hb1⟩
  have H1 := Lib.hid hb1
  clear hb1
  cases y with
  | true =>
    clear hfew
    go_wp2_with fail
    refine (lives19_any _).mono ?_
    rintro e w2 ⟨rfl, hb⟩
    have hw2 := below_trans H1.out hb H1.out.size
    clear hb
    go_wp2_with fail
    go_ret
    exact ⟨rfl, hw2⟩
  | false =>
    have HF := Lib.hid (hfew rfl)
    clear hfew
    have hl60 := HF.out.1
    obtain ⟨g0, hg0⟩ : ∃ g0, graceL re 0 = g0 := ⟨_, rfl⟩
    go_wp2_with fail
    refine (lnew_any 0 (by decide) re _).mono ?_
    rw [hg0]
    rintro e w2 ⟨b, m, rfl, hB2, hb2, hbb, hbm⟩
    have hw2 := below_trans H1.out hb2 H1.out.size
    have hbk : Bk (w2.alloc (.cells #[.int .i64 g0, .int .i64 0, .int .i64 0, .int .i64 0, .int .i64 0, .int .i64 0, .int .i64 0, .int .i64 0, .int .i64 0] 33)) b m 0 g0 (fun _ => none) := hB2.below ((Below.refl _ _).alloc (Nat.le_refl _) _)
    have hR : RB (w2.alloc (.cells #[.int .i64 g0, .int .i64 0, .int .i64 0, .int .i64 0, .int .i64 0, .int .i64 0, .int .i64 0, .int .i64 0, .int .i64 0] 33)) w2.heap.size g0 (fun _ => 0) (fun _ => 0) := Blk.new w2 _ [_, _, _, _, _, _, _, _, _]
    have ha := (Below.refl w2.heap.size w2).alloc (Nat.le_refl _) (.cells #[.int .i64 g0, .int .i64 0, .int .i64 0, .int .i64 0, .int .i64 0, .int .i64 0, .int .i64 0, .int .i64 0, .int .i64 0] 33)
    have hs : ∀ o, (w2.alloc o).heap.size = w2.heap.size + 1 := fun o => by simp
    have HR0 := Lib.hid (And.intro (below_trans hw2 ha hw2.size) (And.intro hbk (And.intro hR (And.intro (show w.heap.size ≤ m from by have := H1.out.size; omega) (And.intro hw2.size hs)))))
    clear hB2 hb2 hbb hbm hw2 hbk hR ha hs H1
    cases re
    case' false =>
      obtain rfl : g0 = 0 := by rw [← hg0]; rfl
      clear hg0
      go_wp2_with fail
      refine abs_code (fun W => ∃ g0, TkI w W (w2.heap.size + 1) reg0 (none, 0, 0) b m 0 g0 (fun _ => none) w2.heap.size (fun _ => 0) (fun _ => 0)) ⟨0, ⟨HR0.out.1.alloc HR0.out.1.size _, Blk.newAt _ 37 (rgv reg0 (none, 0, 0)) (HR0.out.2.2.2.2.2 _), LogAt.nil, HR0.out.2.1.below ((Below.refl _ _).alloc (Nat.le_refl _) _), HR0.out.2.2.2.1, by have := HR0.out.2.2.2.2.1; omega⟩, Blk.alloc HR0.out.2.2.1 _, HR0.out.2.2.2.2.1, by omega⟩ ?_
    case' true =>
      obtain rfl : g0 = afterS 0 := by rw [← hg0]; rfl
      clear hg0
      go_wp2_with fail
      refine (over_any 0 (by omega) _).mono ?_
      rintro e w3 ⟨rfl, rfl⟩
      go_wp2_with fail
      refine abs_code (fun W => ∃ g0, TkI w W (w2.heap.size + 1) reg0 (none, 0, 0) b m 0 g0 (fun _ => none) w2.heap.size (fun _ => 0) (fun _ => 0)) ⟨afterS 0, ⟨HR0.out.1.alloc HR0.out.1.size _, Blk.newAt _ 37 (rgv reg0 (none, 0, 0)) (HR0.out.2.2.2.2.2 _), LogAt.nil, HR0.out.2.1.below ((Below.refl _ _).alloc (Nat.le_refl _) _), HR0.out.2.2.2.1, by have := HR0.out.2.2.2.2.1; omega⟩, Blk.alloc HR0.out.2.2.1 _, HR0.out.2.2.2.2.1, by omega⟩ ?_
    all_goals
      clear HR0
      rintro w3 ⟨g0, h3⟩
      generalize w2.heap.size + 1 = gr at h3 ⊢
      generalize w2.heap.size = rb at h3 ⊢
      have H3 := Lib.hid h3
      clear h3
      go_loopg [10, 11] l.length (fun q nw i wr => ∃ (j n : Nat) (nv : Int) (r : RegS) (s : SlcE) (G : Int → Option (Int × Int)) (E U : Nat → Int), q = l.length - j ∧ j ≤ l.length ∧ nw = .int .i64 nv ∧ i = .int .i64 j ∧ (0 ≤ nv ∧ nv ≤ 255 * j) ∧ n ≤ j ∧ (mayR r = true ∧ Alike G E U ∧ RBz E U) ∧ TkI w wr gr r s b m n g0 G rb E U)
      case atStart => exact ⟨0, 0, 0, reg0, (none, 0, 0), fun _ => none, fun _ => 0, fun _ => 0, rfl, by omega, rfl, rfl, by omega, by omega, ⟨may_reg0, alike_start, rfl, rfl, rfl, rfl, rfl, rfl⟩, H3.out⟩
      case round =>
        clear H3
        obtain ⟨j, n, nv, r, s, G, E, U, hq, hj, rfl, rfl, ⟨v0, v1⟩, hnj, hmr, hI⟩ := hrel
        have AA : Aside (gk = l.length - j ∧ n ≤ j) := ⟨hq, hnj⟩
        clear hq hnj
        obtain ⟨wo, rfl⟩ : ∃ wo, wo = wr := ⟨_, rfl⟩
        have HI := Lib.hid (And.intro hI hmr)
        clear hI hmr
        by_cases hlt : j < l.length
        · have j0 : (0 : Int) ≤ (j : Int) := by omega
          have j1 : (j : Int) < (l.length : Int) := by omega
          obtain ⟨b1, o1, x, rfl, hx, FA, HX⟩ := HE.out.1.range hlt
          have hx100 := Lib.hid (HF.out.2 x (List.mem_of_getElem? hx.out))
          have HFA := Lib.hid FA
          clear FA
          by_cases htk : j < ts.length
          case' pos =>
            have t1 : (j : Int) < (ts.length : Int) := by omega
            obtain ⟨b2, o2, k, rfl, hk, FT⟩ := HE.out.2.1.at_ htk
            have hkr := HE.out.2.2 k (List.mem_of_getElem? hk.out)
            have ck := FT _ HI.out.1.1.1
            have wk : IntKind.i64.wrap k = k := IntWalk.i64_in _ (by omega)
            have ws : IntKind.i64.wrap (nv + k) = nv + k := IntWalk.i64_in _ (by omega)
            have hv2 : ∃ nv2 : Int, nv + k = nv2 ∧ 0 ≤ nv2 ∧ nv2 ≤ 255 * ((j : Int) + 1) := ⟨_, rfl, by omega, by omega⟩
            clear FT hkr
          case' neg =>
            have t1 : ¬ (j : Int) < (ts.length : Int) := by omega
            have hv2 : ∃ nv2 : Int, nv = nv2 ∧ 0 ≤ nv2 ∧ nv2 ≤ 255 * ((j : Int) + 1) := ⟨_, rfl, by omega, by omega⟩
          all_goals
            obtain ⟨nv2, hvv, u0, u1⟩ := hv2
            have HV := Lib.hid hvv
            try clear hvv
            go_wp2_with ((with_reducible refine at_list ?_); (with_reducible refine cut_at 52 rfl ?_))
            refine Cut.go ?_
            try rw [HV.out]
            clear HV t1
            try clear ck wk ws
            go_wp2_with ((with_reducible refine at_list ?_); first | (with_reducible refine cut_at 53 rfl ?_) | (refine wpList_load_mid rfl 43 _ rfl _ _ rfl _ _ (HFA.out _ HI.out.1.1.1) Try.underlying43 rfl mail_info ?_) | (refine wpList_store_own rfl 43 _ _ rfl _ (mailv x) rfl rfl _ _ (Blk.new wo 43 (mailv backV0)) mail_info rfl (mail_one _) ?_; intro w4 B4 g4))
            refine Cut.go ?_
            have hb4 := below_new g4
            have c3 : w4.cell? ⟨wo.heap.size, 3, none⟩ = some (.int .i64 x.m.stream) := B4.cell 3
            have z3 : w4.frozen? ⟨wo.heap.size, 3, none⟩ = false := B4.frozen 3
            have hbx : Below wo.heap.size wo (w4.setCell ⟨wo.heap.size, 3, none⟩ (.int .i64 1)) := hb4.trans (below_grown (only_setCell (World.grownBy.refl w4 (some wo.heap.size)) (p := ⟨wo.heap.size, 3, none⟩) (.inl rfl) _) (Nat.le_refl _) hb4.size)
            have hI5 := HI.out.1.keep hbx
            have HJ := Lib.hid (show TkI w (w4.setCell ⟨wo.heap.size, 3, none⟩ (.int .i64 1)) gr r s b m n g0 G rb E U ∧ Blk (w4.setCell ⟨wo.heap.size, 3, none⟩ (.int .i64 1)) wo.heap.size 43 (mailv (st1 x)) ∧ LogAt (w4.setCell ⟨wo.heap.size, 3, none⟩ (.int .i64 1)) (w4.setCell ⟨wo.heap.size, 3, none⟩ (.int .i64 1)).heap.size (st1 x).es (st1 x).m.ents from
              ⟨hI5, by rw [← st1_set]; exact B4.set 3 _, (HX.out.below hI5.1.1).more hI5.1.1.size⟩)
            have HMR := Lib.hid HI.out.2
            clear hb4 hbx hI5 B4 g4 HI
            go_wp2_with ((with_reducible refine at_list ?_); (with_reducible refine cut_at 55 rfl ?_))
            refine Cut.go ?_
            clear c3 z3
            refine abs_list (fun W => TkI w W gr r s b m n g0 G rb E U ∧ Blk W wo.heap.size 43 (mailv (st1 x)) ∧ LogAt W W.heap.size (st1 x).es (st1 x).m.ents) HJ.out ?_
            clear HJ
            intro w5 h5
            generalize wo.heap.size = gm at h5 ⊢
            have hx1 : (st1 x).m.ents.length ≤ 100 ∧ (st1 x).m.stream = 1 := ⟨hx100.out, rfl⟩
            obtain ⟨xx, hxx⟩ : ∃ xx, st1 x = xx := ⟨_, rfl⟩
            rw [hxx] at h5 hx1
            clear hxx
            have H5 := Lib.hid (And.intro h5 hx1)
            clear h5 hx1
            go_wp2_with ((with_reducible refine at_list ?_); first | refine wpList_load_blk rfl 37 _ rfl _ rfl _ _ _ (H5.out.1.1.1.2.1) Try.underlying37 rfl rg_info ?_ | refine wpList_load_blk rfl 43 _ rfl _ rfl _ _ _ (H5.out.1.2.1) Try.underlying43 rfl mail_info ?_)
            refine (take_any r s b m n g0 G xx nv2 w5 H5.out.1.1.1.2.2.2.1 (by have := AA.out.2; unfold maxLen; omega) u0 H5.out.1.1.1.2.2.1 H5.out.1.2.2 (by have := H5.out.2.1; omega)).mono ?_
            rintro e w6 ⟨⟨A1, d1, A2, d2, xs, ys, rfl, hR, hM, hxs, hys, hfs, hyo⟩, hB6, hK6⟩
            obtain ⟨may, hmay⟩ : ∃ may, mayL g0 (G xx.m.stream) xx.m.epoch nv2 = may := ⟨_, rfl⟩
            rw [hmay] at hxs hys hB6
            have hmay2 : rmayL g0 E U xx.m.stream xx.m.epoch nv2 = may := (alike_may HMR.out.2.1 u0 (.inl rfl)).symm.trans hmay
            have hen : ∀ y ∈ xs, y.ents.length ≤ 1000 := fun y hy => by
              have h1 := take_ents r may xx.m y.s (by rw [← hxs]; exact List.mem_map_of_mem hy)
              have h2 := (may_com HMR.out.1).2.2
              have h3 := H5.out.2.1
              have h4 : y.s.ents = y.ents := rfl
              rw [h4] at h1
              omega
            have hfx : xs.length ≤ 2 ∧ ys.length ≤ 1 := by
              have h1 := take_few r may xx.m
              rw [← hxs, ← hys, List.length_map, List.length_map] at h1
              exact h1
            have hI6 := H5.out.1.1.take hB6 hK6
            have hM6 := hK6.blk H5.out.1.2.1 (fun e => H5.out.1.1.1.2.2.2.1.notBlk H5.out.1.2.1 (Option.some.inj e)) (by simp)
            have hL6 := H5.out.1.2.2.turned H5.out.1.1.1.2.2.2.1 hK6
            have H6 := Lib.hid (And.intro hI6 (And.intro hM6 (And.intro hL6 (And.intro hR hM))))
            have HK := Lib.hid (And.intro hxs (And.intro hys (And.intro hfs (And.intro hyo (And.intro hen (And.intro hfx (And.intro hmay2 H5.out.2)))))))
            clear hI6 hM6 hL6 hR hM hxs hys hfs hyo hen hfx hmay hmay2 hB6 hK6 H5
            go_wp2_with ((with_reducible refine at_list ?_); first | refine wpList_load_blk rfl 37 _ rfl _ rfl _ _ _ (H6.out.1.1.2.1) Try.underlying37 rfl rg_info ?_ | refine wpList_load_blk rfl 43 _ rfl _ rfl _ _ _ (H6.out.2.1) Try.underlying43 rfl mail_info ?_)
            refine (rdtake_any r s rb g0 E U xx nv2 w6 H6.out.1.2.1 HMR.out.2.2 HK.out.2.2.2.2.2.2.2.2 u0 H6.out.1.1.2.2.1 H6.out.2.2.1 (by have := HK.out.2.2.2.2.2.2.2.1; omega)).mono ?_
            rw [HK.out.2.2.2.2.2.2.1]
            rintro e w7 ⟨⟨A3, d3, A4, d4, us, zs, rfl, hR7, hM7, hus, hzs, hfs2, hzo⟩, hRB7, hK7⟩
            obtain ⟨hR6, hM6⟩ := ans_rb H6.out.2.2.2.1 H6.out.2.2.2.2 HK.out.1 HK.out.2.1 (take_ok r may xx.m).1 (take_ok r may xx.m).2 H6.out.1.2.1 HMR.out.2.2 hK7.toGrown
            have hI7 := H6.out.1.doc HMR.out.1 HMR.out.2.2 hRB7 hK7
            have hAl := alike_book (s := xx.m.stream) (ep := xx.m.epoch) HMR.out.2.1 u0 (takeS r may xx.m).act
            have hBz : RBz (bookE (takeS r may xx.m).act E U xx.m.stream xx.m.epoch) (bookU (takeS r may xx.m).act E U xx.m.stream xx.m.epoch nv2) := by rw [HK.out.2.2.2.2.2.2.2.2]; exact HMR.out.2.2.book
            have hsame := same19_any xs us ys zs A1 A3 A2 A4 d1 d3 d2 d4 w7 hR6 hR7 hM6 hM7 (hus.trans HK.out.1.symm) (hzs.trans HK.out.2.1.symm) HK.out.2.2.1 hfs2 HK.out.2.2.2.1 hzo (by have := HK.out.2.2.2.2.2.1; omega) (by have := HK.out.2.2.2.2.2.1; omega)
            have hul : us.length = xs.length := map_length_eq (hus.trans HK.out.1.symm)
            have hzl : zs.length = ys.length := map_length_eq (hzs.trans HK.out.2.1.symm)
            have hst : ∀ k y, (xs.map RecV.s)[k]? = some y → ∃ a, applyR (appliedS r ((xs.map RecV.s).take k)) y = some a := by rw [HK.out.1]; exact take_steps r may xx.m
            have hmq : mayR (appliedS r (xs.map RecV.s)) = true := (stays_applied _ r HMR.out.1).1
            rw [hul, hzl]
            obtain ⟨G2, hG2⟩ : ∃ G2, bookG (takeS r may xx.m).act G xx.m.stream xx.m.epoch nv2 = G2 := ⟨_, rfl⟩
            obtain ⟨E2, hE2⟩ : ∃ E2, bookE (takeS r may xx.m).act E U xx.m.stream xx.m.epoch = E2 := ⟨_, rfl⟩
            obtain ⟨U2, hU2⟩ : ∃ U2, bookU (takeS r may xx.m).act E U xx.m.stream xx.m.epoch nv2 = U2 := ⟨_, rfl⟩
            rw [hE2, hU2] at hI7 hAl hBz
            rw [hG2] at hI7 hAl
            have hxl : xs.length ≤ 2 := HK.out.2.2.2.2.2.1.1
            have H7 := Lib.hid (And.intro hI7 hR6)
            have HS7 := Lib.hid hsame
            have HQ7 := Lib.hid (And.intro hst (And.intro HK.out.2.2.2.2.1 (And.intro hmq (And.intro hAl hBz))))
            clear hR7 hM7 hus hzs hfs2 hzo hRB7 hK7 hR6 hM6 hI7 hAl hBz hsame hul hzl hst hmq hG2 hE2 hU2 H6 HK HMR
            go_wp2_with fail
            refine HS7.out.mono ?_
            rintro e w8 ⟨rfl, hb8⟩
            have H8 := Lib.hid (And.intro (H7.out.1.keep hb8) (H7.out.2.keep hb8))
            clear hb8 H7 HS7
            go_wp2_with fail
            have AO := AA
            go_loopg [17] xs.length (fun q i wr => ∃ (k : Nat) (sk : SlcE), q = xs.length - k ∧ k ≤ xs.length ∧ i = .int .i64 k ∧ TkI w wr gr (appliedS r ((xs.map RecV.s).take k)) sk b m (n + 1) g0 G2 rb E2 U2 ∧ Rcs wr wr.heap.size A1 xs)
            case atStart => exact ⟨0, s, rfl, by omega, rfl, H8.out.1, H8.out.2⟩
            case round => as_aux_lemma =>
              clear H8 AA
              obtain ⟨k, sk, hq, hk, rfl, hIk, hRk⟩ := hrel
              have AA : Aside (gk = xs.length - k) := hq
              clear hq
              obtain ⟨wq, rfl⟩ : ∃ z, z = wr := ⟨_, rfl⟩
              by_cases hkl : k < xs.length
              · have k0 : (0 : Int) ≤ (k : Int) := by omega
                have k1 : (k : Int) < (xs.length : Int) := by omega
                obtain ⟨b4, o4, y, rfl, hy, FY, HY⟩ := hRk.at8 hkl
                obtain ⟨a, ha⟩ := HQ7.out.1 k y.s (by rw [List.getElem?_map, hy.out]; rfl)
                have hy2 := HQ7.out.2.1 y (List.mem_of_getElem? hy.out)
                have HN := Lib.hid ((appliedS_next (r := r) (S := xs.map RecV.s) (j := k) (x := y.s) (by rw [List.getElem?_map, hy.out]; rfl)).trans (by rw [ha]; rfl : _ = a))
                generalize appliedS r ((xs.map RecV.s).take k) = rk at hIk ha ⊢
                have HQ := Lib.hid (show regR (applyR rk y.s) = (a, true) from by rw [ha]; rfl)
                have B1 := hIk.1.2.1
                have HS := Lib.hid hIk.1.2.2.1
                have HIK := Lib.hid (And.intro hIk hRk)
                clear ha hy hIk hRk
                go_wp2_with fail
                refine wp_region_t (.quiet 0 (.quiet 1 (.quiet 2 (.quiet 3 (.quiet 4 (.two 5 9 (.quiet 6 (.quiet 7 (.quiet 8 (.one 9 (.one 10 (.quiet 11 .done)))))) (.one 5 (.quiet 6 (.quiet 7 (.quiet 8 (.one 10 (.quiet 11 .done)))))))))))) (fun w' => Below wq.heap.size wq w') (by kernel_rfl) (by kernel_rfl) (by kernel_rfl) (by kernel_rfl) ((Below.refl _ _).drew) rfl ?_
                intro KP RP TP hKP hTP hTP'
                simp only [Sch.fill, nth]
                apply merge2 (Inv := fun g s w' => Below wq.heap.size wq w' ∧ wq.heap.size ≤ g ∧ Blk w' g 37 (rgv a s) ∧ LogAt w' w'.heap.size s (a).log) (K := KP)
                · intro HK
                  have hQ : Below wq.heap.size wq wq.drew := (Below.refl _ _).drew
                  generalize wq.drew = wc at hQ ⊢
                  go_wp2_with (first
                    | (apply SeqT.skip; rfl; simp only [Act.put, List.setIfInBounds_toArray, List.set_cons_zero, List.set_cons_succ])
                    | (apply SeqT.pure; rfl; (intro w9 hw9; have hw9 := hTP _ hw9; exact exec_load_blk 37 _ rfl _ rfl _ _ (B1.keep hw9) _ Try.underlying37 rfl rg_info); simp only [Act.put, List.setIfInBounds_toArray, List.set_cons_zero, List.set_cons_succ])
                    | (apply SeqT.pure; rfl; (intro w9 hw9; have hw9 := hTP _ hw9; ((obtain ⟨q0, q1, q2, q3, q4, q5, q6, q7⟩ := FY _ hw9)); go_simp; with_reducible rfl); simp only [Act.put, List.setIfInBounds_toArray, List.set_cons_zero, List.set_cons_succ]))
                  all_goals first | apply SeqT.two | apply SeqT.one
                  all_goals first
                    | (refine EffT.is (some 88) rfl ?_
                       apply EffT.go
                       · rfl
                       intro KE hKE
                       go_wp2_with fail
                       refine (apply_tell sk y wc HQ.out (HS.out.keep hQ) (HY.out.keep hQ) (by omega)).mono ?_
                       rintro e wd ⟨sr, rfl, hR0, hb⟩
                       have hQ' := below_trans hQ hb hQ.size
                       refine hKE _ _ (hTP' _ hQ') ?_
                       clear hKE KE hQ
                       try replace hZ := hZ.keep hb
                       clear hb
                       try clear wc
                       obtain ⟨wc, rfl⟩ : ∃ z, z = wd := ⟨_, rfl⟩
                       have hR := hR0
                       clear hR0
                       have hQ := hQ'
                       clear hQ'
                       go_wp2_with (first
                         | (apply SeqT.skip; rfl; simp only [Act.put, List.setIfInBounds_toArray, List.set_cons_zero, List.set_cons_succ])
                         | (apply SeqT.pure; rfl; (intro w9 hw9; have hw9 := hTP _ hw9; exact exec_load_blk 37 _ rfl _ rfl _ _ (B1.keep hw9) _ Try.underlying37 rfl rg_info); simp only [Act.put, List.setIfInBounds_toArray, List.set_cons_zero, List.set_cons_succ])
                         | (apply SeqT.pure; rfl; (intro w9 hw9; have hw9 := hTP _ hw9; ((obtain ⟨q0, q1, q2, q3, q4, q5, q6, q7⟩ := FY _ hw9)); go_simp; with_reducible rfl); simp only [Act.put, List.setIfInBounds_toArray, List.set_cons_zero, List.set_cons_succ])))
                    | (refine EffT.is (some 18) rfl ?_
                       apply EffT.go
                       · rfl
                       intro KE hKE
                       go_wp2_with fail
                       refine eff_abs hKE (fun W' => Below wc.heap.size wc W' ∧ Blk W' wc.heap.size 37 (rgv reg0 (none, 0, 0))) ⟨(Below.refl _ _).alloc (Nat.le_refl _) _, Blk.new wc 37 (rgv reg0 (none, 0, 0))⟩ (fun W' h => hTP' _ (below_trans hQ h.1 hQ.size)) ?_
                       rintro wd ⟨hb, hZ0⟩
                       have hQ' := below_trans hQ hb hQ.size
                       have hgz := hQ.size
                       generalize wc.heap.size = gz at hZ0 hgz ⊢
                       clear hKE KE hQ
                       try replace hR := hR.keep hb
                       clear hb
                       try clear wc
                       obtain ⟨wc, rfl⟩ : ∃ z, z = wd := ⟨_, rfl⟩
                       have hZ := hZ0
                       clear hZ0
                       have hQ := hQ'
                       clear hQ'
                       go_wp2_with (first
                         | (apply SeqT.skip; rfl; simp only [Act.put, List.setIfInBounds_toArray, List.set_cons_zero, List.set_cons_succ])
                         | (apply SeqT.pure; rfl; (intro w9 hw9; have hw9 := hTP _ hw9; exact exec_load_blk 37 _ rfl _ rfl _ _ (B1.keep hw9) _ Try.underlying37 rfl rg_info); simp only [Act.put, List.setIfInBounds_toArray, List.set_cons_zero, List.set_cons_succ])
                         | (apply SeqT.pure; rfl; (intro w9 hw9; have hw9 := hTP _ hw9; ((obtain ⟨q0, q1, q2, q3, q4, q5, q6, q7⟩ := FY _ hw9)); go_simp; with_reducible rfl); simp only [Act.put, List.setIfInBounds_toArray, List.set_cons_zero, List.set_cons_succ])))
                  all_goals first | apply SeqT.two | apply SeqT.one
                  all_goals first
                    | (refine EffT.is (some 88) rfl ?_
                       apply EffT.go
                       · rfl
                       intro KE hKE
                       go_wp2_with fail
                       refine (apply_tell sk y wc HQ.out (HS.out.keep hQ) (HY.out.keep hQ) (by omega)).mono ?_
                       rintro e wd ⟨sr, rfl, hR0, hb⟩
                       have hQ' := below_trans hQ hb hQ.size
                       refine hKE _ _ (hTP' _ hQ') ?_
                       clear hKE KE hQ
                       try replace hZ := hZ.keep hb
                       clear hb
                       try clear wc
                       obtain ⟨wc, rfl⟩ : ∃ z, z = wd := ⟨_, rfl⟩
                       have hR := hR0
                       clear hR0
                       have hQ := hQ'
                       clear hQ'
                       go_wp2_with (first
                         | (apply SeqT.skip; rfl; simp only [Act.put, List.setIfInBounds_toArray, List.set_cons_zero, List.set_cons_succ])
                         | (apply SeqT.pure; rfl; (intro w9 hw9; have hw9 := hTP _ hw9; exact exec_load_blk 37 _ rfl _ rfl _ _ (B1.keep hw9) _ Try.underlying37 rfl rg_info); simp only [Act.put, List.setIfInBounds_toArray, List.set_cons_zero, List.set_cons_succ])
                         | (apply SeqT.pure; rfl; (intro w9 hw9; have hw9 := hTP _ hw9; ((obtain ⟨q0, q1, q2, q3, q4, q5, q6, q7⟩ := FY _ hw9)); go_simp; with_reducible rfl); simp only [Act.put, List.setIfInBounds_toArray, List.set_cons_zero, List.set_cons_succ])))
                    | (refine EffT.is (some 18) rfl ?_
                       apply EffT.go
                       · rfl
                       intro KE hKE
                       go_wp2_with fail
                       refine eff_abs hKE (fun W' => Below wc.heap.size wc W' ∧ Blk W' wc.heap.size 37 (rgv reg0 (none, 0, 0))) ⟨(Below.refl _ _).alloc (Nat.le_refl _) _, Blk.new wc 37 (rgv reg0 (none, 0, 0))⟩ (fun W' h => hTP' _ (below_trans hQ h.1 hQ.size)) ?_
                       rintro wd ⟨hb, hZ0⟩
                       have hQ' := below_trans hQ hb hQ.size
                       have hgz := hQ.size
                       generalize wc.heap.size = gz at hZ0 hgz ⊢
                       clear hKE KE hQ
                       try replace hR := hR.keep hb
                       clear hb
                       try clear wc
                       obtain ⟨wc, rfl⟩ : ∃ z, z = wd := ⟨_, rfl⟩
                       have hZ := hZ0
                       clear hZ0
                       have hQ := hQ'
                       clear hQ'
                       go_wp2_with (first
                         | (apply SeqT.skip; rfl; simp only [Act.put, List.setIfInBounds_toArray, List.set_cons_zero, List.set_cons_succ])
                         | (apply SeqT.pure; rfl; (intro w9 hw9; have hw9 := hTP _ hw9; exact exec_load_blk 37 _ rfl _ rfl _ _ (B1.keep hw9) _ Try.underlying37 rfl rg_info); simp only [Act.put, List.setIfInBounds_toArray, List.set_cons_zero, List.set_cons_succ])
                         | (apply SeqT.pure; rfl; (intro w9 hw9; have hw9 := hTP _ hw9; ((obtain ⟨q0, q1, q2, q3, q4, q5, q6, q7⟩ := FY _ hw9)); go_simp; with_reducible rfl); simp only [Act.put, List.setIfInBounds_toArray, List.set_cons_zero, List.set_cons_succ])))
                  all_goals first | apply SeqT.two | apply SeqT.one
                  all_goals
                    refine EffT.is none rfl ?_
                    apply EffT.go
                    · rfl
                    intro KE hKE
                    refine wp_store_own 37 _ _ rfl _ (rgv a sr) rfl rfl _ _ hZ rg_info rfl (rgv_one _ _) ?_
                    intro wd B5 g5
                    have hQ' := hQ.trans (below_grown g5 hgz hQ.size)
                    have hR5 := hR.stored hZ (by simp [rgv]) g5
                    refine hKE _ _ (hTP' _ hQ') ?_
                    clear hKE KE
                    go_wp2_with (first
                      | (apply SeqT.skip; rfl; simp only [Act.put, List.setIfInBounds_toArray, List.set_cons_zero, List.set_cons_succ])
                      | (apply SeqT.pure; rfl; (intro w9 hw9; have hw9 := hTP _ hw9; exact exec_load_blk 37 _ rfl _ rfl _ _ (B1.keep hw9) _ Try.underlying37 rfl rg_info); simp only [Act.put, List.setIfInBounds_toArray, List.set_cons_zero, List.set_cons_succ])
                      | (apply SeqT.pure; rfl; (intro w9 hw9; have hw9 := hTP _ hw9; ((obtain ⟨q0, q1, q2, q3, q4, q5, q6, q7⟩ := FY _ hw9)); go_simp; with_reducible rfl); simp only [Act.put, List.setIfInBounds_toArray, List.set_cons_zero, List.set_cons_succ]))
                    apply SeqT.done
                    exact HK gz sr wd ⟨hQ', hgz, B5, hR5⟩
                intro g s2 w9 ⟨hb9, hge, B9, R9⟩
                refine hKP _ _ (hTP' _ hb9) ?_
                clear hKP hTP hTP'
                have H9 := Lib.hid (And.intro (HIK.out.1.keep hb9) (And.intro (HIK.out.2.keep hb9) (And.intro B9 R9)))
                clear hb9 B9 R9 HIK HS B1 hge
                go_wp2_with ((with_reducible refine at_list ?_); first | refine wpList_load_blk rfl 37 _ rfl _ rfl _ _ _ (H9.out.2.2.1) Try.underlying37 rfl rg_info ?_ | (refine wpList_store_own rfl 37 _ _ rfl _ (rgv a s2) rfl rfl _ _ (H9.out.1.1.2.1) rg_info rfl (rgv_one _ _) ?_; intro w10 B10 g10))
                go_roundg (xs.length - (k + 1))
                case measure => have hkk := AA.out; omega
                case rel => exact ⟨k + 1, s2, rfl, by omega, by go_num, by rw [HN.out]; exact H9.out.1.put H9.out.2.2.2 B10 g10, H9.out.2.1.stored H9.out.1.1.2.1 (by simp [rgv]) g10⟩
              · obtain rfl : k = xs.length := by omega
                have k1 : ¬ (xs.length : Int) < (xs.length : Int) := by omega
                have htk2 : (xs.map RecV.s).take xs.length = xs.map RecV.s := List.take_of_length_le (by rw [List.length_map]; omega)
                rw [htk2] at hIk
                clear htk2
                have H9 := Lib.hid hIk
                clear hIk hRk
                go_wp2_with fail
                go_roundg (l.length - (j + 1))
                case measure => have hkk := AO.out; omega
                case rel => exact ⟨j + 1, n + 1, nv2, _, sk, G2, E2, U2, rfl, by omega, rfl, by go_num, by omega, by have hkk := AO.out; omega, HQ7.out.2.2, H9.out⟩
        · obtain rfl : j = l.length := by omega
          have j1 : ¬ (l.length : Int) < (l.length : Int) := by omega
          have HZ := Lib.hid HI.out.1.1.1
          clear HI
          go_wp2_with fail
          refine (lives19_any _).mono ?_
          rintro e w4 ⟨rfl, hb⟩
          have hw4 := below_trans HZ.out hb HZ.out.size
          clear hb
          go_wp2_with fail
          go_ret
          exact ⟨rfl, hw4⟩
end Go.Proofs.Ytdphfhenjndkkaa

set_option linter.unusedSimpArgs false
set_option linter.unusedVariables false
set_option maxRecDepth 100000
namespace Go.Sq
open Go Go.ChangeShapes Go.WideShapes Go.RowKit Go.Deep
section
variable {H : Type} {enc : TypeId × Value → H} {P : Program} {w : World} {base : Nat} {spare : Nat → Bool} {held : Bool}
theorem open_rows_in {k : Nat} {t e : TypeId} {C : Nat} {v : Value} {y : DataW H × List MemPlace} (ht : P.underlying t = some (.slice e))
    (hC : P.cellsOf e = C) (hpos : 0 < C) (h : DataW.trod enc P w base spare held k t [v] = some y) :
    ∃ (a : Option Addr) (len cap : Nat), v = .slice a len cap ∧ len ≤ cap ∧ cap ≤ maxLen ∧ (0 < len → ∃ b off, a = some ⟨b, off, none⟩ ∧ b < w.heap.size ∧ ∀ i, i < len →
      ∃ (cs : List Value) (n : Nat) (y : DataW H × List MemPlace), cs.length = C ∧ (∀ k, k < C → w.cell? ⟨b, off + i * C + k, none⟩ = cs[k]?) ∧ DataW.trod enc P w base spare held n e cs = some y) := by
  rcases open_slice ht h with ⟨hcs, _⟩ | ⟨a, l, c, m, n, D, Pl, hcs, _, hl, hm, hmm, _, hi⟩
  · cases hcs
    exact ⟨none, 0, 0, rfl, Nat.le_refl _, by simp [maxLen], fun h => absurd h (by omega)⟩
  · cases hcs
    refine ⟨some a, l, c, rfl, hl, hm, fun hlen => ?_⟩
    obtain ⟨b, off, rfl, hbl⟩ : ∃ b off, a = ⟨b, off, none⟩ ∧ b < w.heap.size := by
      obtain ⟨cs', hc, _⟩ := hi 0 (by rw [hmm]; split <;> omega)
      rw [hC] at hc
      obtain ⟨_, hcl, hat⟩ := World.cells?_some hc
      have h0 := hat 0 hpos
      rw [List.getElem?_eq_getElem (show 0 < cs'.length by omega)] at h0
      have hsp : a.spot = none := by simpa [Addr.add] using World.cell?_spot h0
      have hbl := World.block_lt_of_cell? _ _ h0
      rw [add_block, add_block] at hbl
      obtain ⟨b, off, spot⟩ := a
      obtain rfl : spot = none := hsp
      exact ⟨b, off, rfl, hbl⟩
    refine ⟨b, off, rfl, hbl, fun i hil => ?_⟩
    obtain ⟨cs', hc, ht'⟩ := hi i (by rw [hmm]; split <;> omega)
    rw [hC] at hc
    obtain ⟨_, hcl, hat⟩ := World.cells?_some hc
    refine ⟨cs', n, _, hcl, fun k hk => ?_, ht'⟩
    have h3 := hat k hk
    rw [add_none, add_none] at h3
    exact h3
end
end Go.Sq

set_option linter.unusedSimpArgs false
set_option linter.unusedVariables false
set_option maxRecDepth 100000
namespace Go.Proofs.Ytdphfhenjndkkaa
open Go Go.ChangeShapes Go.WideShapes Go.RowKit Go.Deep Go.Sq Go.Wd Go.Arch
section
variable {H : Type} {enc : TypeId × Value → H} {w : World} {base : Nat} {spare : Nat → Bool} {held : Bool}

theorem open_log {k : Nat} {v : Value} {y : DataW H × List MemPlace} (h : DataW.trod enc Try.prog w base spare held k 35 [v] = some y) :
    ∃ (sl : SlcE) (es : List Ent), v = .slice sl.1 sl.2.1 sl.2.2 ∧ LogAt w w.heap.size sl es ∧ ∀ e ∈ es, wfEnt e := by
  obtain ⟨A, len, cap, rfl, h1, h2, h3⟩ := open_rows_in Try.underlying35 (C := 6) (by kernel_rfl) (by omega) h
  have h2' : cap ≤ 9223372036854775807 := by simp only [maxLen] at h2; omega
  rcases Nat.eq_zero_or_pos len with h0 | h0
  · subst h0
    exact ⟨(A, 0, cap), [], rfl, ⟨rfl, h1, h2', Ents.nil⟩, by simp⟩
  · obtain ⟨b, off, rfl, hb, hrow⟩ := h3 h0
    obtain ⟨l, hl, hp⟩ := list_of (p := fun i e => EntAt w b (off + i * 6) e ∧ wfEnt e) len (fun i hi => by
      obtain ⟨cs, n, y, hcl, hcell, ht⟩ := hrow i hi
      obtain ⟨e, rfl, hw⟩ := open_ent ht
      exact ⟨e, ⟨hcell 0 (by omega), hcell 1 (by omega), hcell 2 (by omega), hcell 3 (by omega), hcell 4 (by omega), hcell 5 (by omega)⟩, hw⟩)
    subst hl
    refine ⟨(some ⟨b, off, none⟩, l.length, cap), l, rfl, ⟨rfl, h1, h2', fun _ => ⟨b, off, rfl, hb, fun i e he => (hp i e he).1⟩⟩, fun e he => ?_⟩
    obtain ⟨i, hi⟩ := List.getElem?_of_mem he
    exact (hp i e hi).2
theorem open_any_slice {k : Nat} {t e : TypeId} {v : Value} {y : DataW H × List MemPlace} (ht : Try.prog.underlying t = some (.slice e)) (h : DataW.trod enc Try.prog w base spare held k t [v] = some y) : ∃ sl : SlcE, v = .slice sl.1 sl.2.1 sl.2.2 := by
  rcases open_slice ht h with ⟨hcs, _⟩ | ⟨a, l, c, m, n, D, Pl, hcs, _⟩
  · cases hcs
    exact ⟨(none, 0, 0), rfl⟩
  · cases hcs
    exact ⟨(some a, l, c), rfl⟩
theorem rec_fields {fs : Array Field} (hs : Try.prog.underlying 53 = some (.struct fs)) {n : Nat} {cs : List Value} (hl : cs.length = fs.size)
    (hf : ∀ (j : Nat) (f : Field), fs[j]? = some f → ∃ (c : Value) (y : DataW H × List MemPlace), cs[j]? = some c ∧ DataW.trod enc Try.prog w base spare held n f.type [c] = some y) :
    ∃ x : RecV, cs = rcv x ∧ LogAt w w.heap.size x.es x.ents ∧ ∀ e ∈ x.ents, wfEnt e := by
  rw [Try.underlying53] at hs
  cases hs
  obtain ⟨c0, c1, c2, c3, c4, c5, c6, c7, rfl⟩ := len8 hl
  obtain ⟨_, _, e0, t0⟩ := hf 0 _ rfl
  obtain ⟨_, _, e1, t1⟩ := hf 1 _ rfl
  obtain ⟨_, _, e2, t2⟩ := hf 2 _ rfl
  obtain ⟨_, _, e3, t3⟩ := hf 3 _ rfl
  obtain ⟨_, _, e4, t4⟩ := hf 4 _ rfl
  obtain ⟨_, _, e5, t5⟩ := hf 5 _ rfl
  obtain ⟨_, _, e6, t6⟩ := hf 6 _ rfl
  obtain ⟨_, _, e7, t7⟩ := hf 7 _ rfl
  cases e0; cases e1; cases e2; cases e3; cases e4; cases e5; cases e6; cases e7
  obtain ⟨z0, q0, _, _⟩ := DataW.trod_int Try.underlying3 t0
  obtain ⟨z1, q1, _, _⟩ := DataW.trod_int Try.underlying3 t1
  obtain ⟨z2, q2, _, _⟩ := DataW.trod_int Try.underlying3 t2
  obtain ⟨z3, q3, _, _⟩ := DataW.trod_int Try.underlying3 t3
  obtain ⟨z4, q4, _, _⟩ := DataW.trod_int Try.underlying3 t4
  obtain ⟨z5, q5, _, _⟩ := DataW.trod_int Try.underlying3 t5
  cases q0; cases q1; cases q2; cases q3; cases q4; cases q5
  obtain ⟨sl, es, rfl, hE, hw⟩ := open_log t6
  obtain ⟨fs, rfl⟩ := open_any_slice Try.underlying51 t7
  exact ⟨⟨z0, z1, z2, z3, z4, z5, sl, es, fs⟩, rfl, hE, hw⟩
theorem reg_fields {fs : Array Field} (hs : Try.prog.underlying 37 = some (.struct fs)) {n : Nat} {cs : List Value} (hl : cs.length = fs.size)
    (hf : ∀ (j : Nat) (f : Field), fs[j]? = some f → ∃ (c : Value) (y : DataW H × List MemPlace), cs[j]? = some c ∧ DataW.trod enc Try.prog w base spare held n f.type [c] = some y) :
    ∃ (r : RegS) (sl : SlcE), cs = rgv r sl ∧ LogAt w w.heap.size sl r.log ∧ ∀ e ∈ r.log, wfEnt e := by
  rw [Try.underlying37] at hs
  cases hs
  obtain ⟨c0, c1, c2, c3, rfl⟩ := len4 hl
  obtain ⟨_, _, e0, t0⟩ := hf 0 _ rfl
  obtain ⟨_, _, e1, t1⟩ := hf 1 _ rfl
  obtain ⟨_, _, e2, t2⟩ := hf 2 _ rfl
  obtain ⟨_, _, e3, t3⟩ := hf 3 _ rfl
  cases e0; cases e1; cases e2; cases e3
  obtain ⟨z0, q0, _, _⟩ := DataW.trod_int Try.underlying3 t0
  obtain ⟨z1, q1, _, _⟩ := DataW.trod_int Try.underlying3 t1
  obtain ⟨z3, q3, _, _⟩ := DataW.trod_int Try.underlying3 t3
  cases q0; cases q1; cases q3
  obtain ⟨sl, es, rfl, hE, hw⟩ := open_log t2
  exact ⟨⟨z0, z1, es, z3⟩, sl, rfl, hE, hw⟩
theorem open_rec_cells {n : Nat} {cs : List Value} {y : DataW H × List MemPlace} (h : DataW.trod enc Try.prog w base spare held n 53 cs = some y) : ∃ x : RecV, cs = rcv x ∧ LogAt w w.heap.size x.es x.ents ∧ ∀ e ∈ x.ents, wfEnt e := by
  obtain ⟨hl, m, hf⟩ := cells_fields Try.underlying53 (by kernel_rfl) (by kernel_rfl) h
  exact rec_fields Try.underlying53 hl hf
theorem open_rec {r : Reach} {b0 : Nat} {v : Value} {d : DataW H} {p : List MemPlace} (hv : Value.okWide Try.prog w r b0 53 v) (h : DataW.Trod enc Try.prog w base spare held 53 v d p) :
    ∃ x : RecV, v = .agg (rcv x).toArray ∧ LogAt w w.heap.size x.es x.ents ∧ ∀ e ∈ x.ents, wfEnt e := by
  obtain ⟨l, m, rfl, hl, hf⟩ := open_fields Try.underlying53 (by kernel_rfl) (by kernel_rfl) hv h
  obtain ⟨x, rfl, hx⟩ := rec_fields Try.underlying53 hl hf
  exact ⟨x, rfl, hx⟩
theorem open_register {r : Reach} {b0 : Nat} {v : Value} {d : DataW H} {p : List MemPlace} (hv : Value.okWide Try.prog w r b0 37 v) (h : DataW.Trod enc Try.prog w base spare held 37 v d p) :
    ∃ (r : RegS) (sl : SlcE), v = .agg (rgv r sl).toArray ∧ LogAt w w.heap.size sl r.log ∧ ∀ e ∈ r.log, wfEnt e := by
  obtain ⟨l, m, rfl, hl, hf⟩ := open_fields Try.underlying37 (by kernel_rfl) (by kernel_rfl) hv h
  obtain ⟨x, sl, rfl, hx⟩ := reg_fields Try.underlying37 hl hf
  exact ⟨x, sl, rfl, hx⟩
theorem open_recs {r : Reach} {b0 : Nat} {v : Value} {d : DataW H} {p : List MemPlace} (hv : Value.okWide Try.prog w r b0 44 v) (h : DataW.Trod enc Try.prog w base spare held 44 v d p) :
    ∃ (A : Option Addr) (l : List RecV) (c : Nat), v = .slice A l.length c ∧ l.length ≤ c ∧ c ≤ 9223372036854775807 ∧ Recs w w.heap.size A l := by
  obtain ⟨A, len, cap, rfl, h1, h2, h3⟩ := open_rows_any Try.underlying44 (C := 8) (by kernel_rfl) (by omega) hv h
  have h2' : cap ≤ 9223372036854775807 := by simp only [maxLen] at h2; omega
  rcases Nat.eq_zero_or_pos len with h0 | h0
  · subst h0
    exact ⟨A, [], cap, rfl, h1, h2', by simp, fun h => absurd h (by simp)⟩
  · obtain ⟨b, off, rfl, hb, hrow⟩ := h3 h0
    obtain ⟨l, hl, hp⟩ := list_of (p := fun i e => RecAt w b (off + i * 8) e ∧ LogAt w w.heap.size e.es e.ents) len (fun i hi => by
      obtain ⟨cs, n, y, hcl, hcell, ht⟩ := hrow i hi
      obtain ⟨x, rfl, hE, _⟩ := open_rec_cells ht
      exact ⟨x, ⟨hcell 0 (by omega), hcell 1 (by omega), hcell 2 (by omega), hcell 3 (by omega), hcell 4 (by omega), hcell 5 (by omega), hcell 6 (by omega), hcell 7 (by omega)⟩, hE⟩)
    subst hl
    refine ⟨_, l, cap, rfl, h1, h2', fun x hx => ?_, fun _ => ⟨b, off, rfl, hb, fun i e he => (hp i e he).1⟩⟩
    obtain ⟨i, hi⟩ := List.getElem?_of_mem hx
    exact (hp i x hi).2
end
end Go.Proofs.Ytdphfhenjndkkaa

set_option linter.unusedSimpArgs false
set_option linter.unusedVariables false
set_option maxRecDepth 100000
namespace Go.Sq
open Go Go.ChangeShapes Go.WideShapes Go.RowKit Go.Deep
section
variable {H : Type} {enc : TypeId × Value → H} {P : Program} {w : World} {base : Nat} {spare : Nat → Bool} {held : Bool}

theorem ints_of {n k : Nat} {t : TypeId} {fs : Array Field} {l : List Value} {x : DataW H × List MemPlace} (hs : P.underlying t = some (.struct fs)) (hone : oneCellFields P fs = true)
    (hC : P.cellsOf t = fs.size) (h5 : fs.size = k) (hty : ∀ (j : Nat) (f : Field), fs[j]? = some f → P.underlying f.type = some (.int .i64)) (h : DataW.trod enc P w base spare held n t l = some x) :
    ∃ zs : List Int, zs.length = k ∧ l = zs.map (.int .i64) ∧ ∀ z ∈ zs, (Lit.int .i64 z).wf = true := by
  obtain ⟨hl, m, hf⟩ := cells_fields hs hone hC h
  rw [h5] at hl
  obtain ⟨zs, hz, hp⟩ := list_of (p := fun i z => l[i]? = some (.int .i64 z) ∧ (Lit.int .i64 z).wf = true) k (fun j hj => by
    have hj' : j < fs.size := by omega
    obtain ⟨c', y, h1, h2⟩ := hf j _ (Array.getElem?_eq_getElem hj')
    obtain ⟨z, hz, _, hw⟩ := DataW.trod_int (hty j _ (Array.getElem?_eq_getElem hj')) h2
    obtain rfl : c' = .int .i64 z := by simpa using hz
    exact ⟨z, h1, hw⟩)
  refine ⟨zs, hz, List.ext_getElem? (fun i => ?_), fun z hzm => ?_⟩
  · rw [List.getElem?_map]
    by_cases hi : i < k
    · have := (hp i zs[i] (List.getElem?_eq_getElem (by omega))).1
      rw [this, List.getElem?_eq_getElem (by omega)]
      rfl
    · rw [List.getElem?_eq_none (by omega), List.getElem?_eq_none (by omega)]
      rfl
  · obtain ⟨i, hi, rfl⟩ := List.mem_iff_getElem.1 hzm
    exact (hp i _ (List.getElem?_eq_getElem hi)).2
end
end Go.Sq

set_option linter.unusedSimpArgs false
set_option linter.unusedVariables false
set_option maxRecDepth 100000
namespace Go.Sq
open Go Go.ChangeShapes Go.WideShapes Go.RowKit Go.Deep
section
variable {H : Type} {enc : TypeId × Value → H} {P : Program} {w : World} {base : Nat} {spare : Nat → Bool} {held : Bool} {α : Type}

theorem open_sl_in (R : Gr.Enc P α) {q : α → Prop} {k : Nat} {v : Value} {y : DataW H × List MemPlace} (hC : P.cellsOf R.elem = R.size)
    (hdec : ∀ (n : Nat) (cs : List Value) (y : DataW H × List MemPlace), DataW.trod enc P w base spare held n R.elem cs = some y → ∃ a, cs = R.enc a ∧ q a)
    (h : DataW.trod enc P w base spare held k R.slice [v] = some y) :
    ∃ (A : Option Addr) (l : List α) (c : Nat), v = .slice A l.length c ∧ l.length ≤ c ∧ c ≤ 9223372036854775807 ∧ Gr.Sl R w w.heap.size A l ∧ (∀ a ∈ l, q a) ∧ (A = none → c = 0) := by
  obtain ⟨A, len, cap, rfl, h1, h2, h3⟩ := open_rows_in R.und hC R.pos h
  have h2' : cap ≤ 9223372036854775807 := by simp only [maxLen] at h2; omega
  have hnil : A = none → cap = 0 := fun e => by
    subst e
    rcases open_slice R.und h with ⟨hcs, _⟩ | ⟨a, l, c, m, n, D, Pl, hcs, _⟩
    · injection hcs with hcs
      injection hcs
    · injection hcs with hcs
      injection hcs with h
      cases h
  rcases Nat.eq_zero_or_pos len with h0 | h0
  · subst h0
    exact ⟨A, [], cap, rfl, h1, h2', Gr.Sl.nil, by simp, hnil⟩
  · obtain ⟨b, off, rfl, hb, hrow⟩ := h3 h0
    obtain ⟨l, hl, hp⟩ := list_of (p := fun i e => Gr.At R w b (off + i * R.size) e ∧ q e) len (fun i hi => by
      obtain ⟨cs, n, y, hcl, hcell, ht⟩ := hrow i hi
      obtain ⟨a, rfl, hq⟩ := hdec n cs y ht
      exact ⟨a, fun k hk => hcell k hk, hq⟩)
    subst hl
    refine ⟨some ⟨b, off, none⟩, l, cap, rfl, h1, h2', fun _ => ⟨b, off, rfl, hb, fun i e he => (hp i e he).1⟩, fun a ha => ?_, hnil⟩
    obtain ⟨i, hi⟩ := List.getElem?_of_mem ha
    exact (hp i a hi).2
theorem open_sl (R : Gr.Enc P α) {q : α → Prop} {r : Reach} {b0 : Nat} {v : Value} {d : DataW H} {p : List MemPlace} (hC : P.cellsOf R.elem = R.size)
    (hdec : ∀ (n : Nat) (cs : List Value) (y : DataW H × List MemPlace), DataW.trod enc P w base spare held n R.elem cs = some y → ∃ a, cs = R.enc a ∧ q a)
    (hv : Value.okWide P w r b0 R.slice v) (h : DataW.Trod enc P w base spare held R.slice v d p) :
    ∃ (A : Option Addr) (l : List α) (c : Nat), v = .slice A l.length c ∧ l.length ≤ c ∧ c ≤ 9223372036854775807 ∧ Gr.Sl R w w.heap.size A l ∧ (∀ a ∈ l, q a) ∧ (A = none → c = 0) := by
  obtain ⟨a0, len, cap, rfl⟩ := okWide_slice R.und hv
  obtain ⟨fuel, hf⟩ := h
  exact open_sl_in R hC hdec (by simpa [Value.cells] using hf)
end
end Go.Sq

set_option linter.unusedSimpArgs false
set_option linter.unusedVariables false
set_option maxRecDepth 100000
namespace Go.Proofs.Ytdphfhenjndkkaa
open Go Go.ChangeShapes Go.WideShapes Go.RowKit Go.Deep Go.Sq Go.Wd Go.Arch
section
variable {H : Type} {enc : TypeId × Value → H} {w : World} {base : Nat} {spare : Nat → Bool} {held : Bool}

theorem len18 {α : Type} {l : List α} (h : l.length = 18) : ∃ a0 a1 a2 a3 a4 a5 a6 a7 a8 a9 b0 b1 b2 b3 b4 b5 b6 b7, l = [a0, a1, a2, a3, a4, a5, a6, a7, a8, a9, b0, b1, b2, b3, b4, b5, b6, b7] := by
  match l, h with
  | [a0, a1, a2, a3, a4, a5, a6, a7, a8, a9, b0, b1, b2, b3, b4, b5, b6, b7], _ => exact ⟨a0, a1, a2, a3, a4, a5, a6, a7, a8, a9, b0, b1, b2, b3, b4, b5, b6, b7, rfl⟩

set_option maxHeartbeats 2000000 in
theorem open_mail {n : Nat} {cs : List Value} {y : DataW H × List MemPlace} (h : DataW.trod enc Try.prog w base spare held n 43 cs = some y) : ∃ x : MailV, cs = mailv x ∧ LogAt w w.heap.size x.es x.m.ents := by
  have hC : Try.prog.cellsOf 43 = 18 := by kernel_rfl
  have hCi : Try.prog.cellsOf 3 = 1 := by kernel_rfl
  have hCe : Try.prog.cellsOf 35 = 1 := by kernel_rfl
  have hCo : Try.prog.cellsOf 39 = 5 := by kernel_rfl
  have hCa : Try.prog.cellsOf 41 = 3 := by kernel_rfl
  obtain ⟨xs, m, _, _, hl, hlen, hg⟩ := DataW.trod_struct Try.underlying43 h
  rw [hC] at hl
  obtain ⟨c0, c1, c2, c3, c4, c5, c6, c7, c8, c9, b0, b1, b2, b3, b4, b5, b6, b7, rfl⟩ := len18 hl
  have hx : xs.length = 12 := hlen
  have h0 := hg 0 _ rfl
  have h1 := hg 1 _ rfl
  have h2 := hg 2 _ rfl
  have h3 := hg 3 _ rfl
  have h4 := hg 4 _ rfl
  have h5 := hg 5 _ rfl
  have h6 := hg 6 _ rfl
  have h7 := hg 7 _ rfl
  have h8 := hg 8 _ rfl
  have h9 := hg 9 _ rfl
  have h10 := hg 10 _ rfl
  have h11 := hg 11 _ rfl
  simp only [List.getElem_toArray, List.getElem_cons_zero, List.getElem_cons_succ] at h0 h1 h2 h3 h4 h5 h6 h7 h8 h9 h10 h11
  rw [hCi] at h0
  rw [hCi] at h1
  rw [hCi] at h2
  rw [hCi] at h3
  rw [hCi] at h4
  rw [hCi] at h5
  rw [hCi] at h6
  rw [hCi] at h7
  rw [hCi] at h8
  rw [hCe] at h9
  rw [hCo] at h10
  rw [hCa] at h11
  simp only [List.drop_zero, List.take_succ_cons, List.take_zero, List.drop_succ_cons] at h0 h1 h2 h3 h4 h5 h6 h7 h8 h9 h10 h11
  rw [List.getElem?_eq_getElem (show 0 < xs.length by omega)] at h0
  rw [List.getElem?_eq_getElem (show 1 < xs.length by omega)] at h1
  rw [List.getElem?_eq_getElem (show 2 < xs.length by omega)] at h2
  rw [List.getElem?_eq_getElem (show 3 < xs.length by omega)] at h3
  rw [List.getElem?_eq_getElem (show 4 < xs.length by omega)] at h4
  rw [List.getElem?_eq_getElem (show 5 < xs.length by omega)] at h5
  rw [List.getElem?_eq_getElem (show 6 < xs.length by omega)] at h6
  rw [List.getElem?_eq_getElem (show 7 < xs.length by omega)] at h7
  rw [List.getElem?_eq_getElem (show 8 < xs.length by omega)] at h8
  rw [List.getElem?_eq_getElem (show 9 < xs.length by omega)] at h9
  rw [List.getElem?_eq_getElem (show 10 < xs.length by omega)] at h10
  rw [List.getElem?_eq_getElem (show 11 < xs.length by omega)] at h11
  obtain ⟨z0, q0, _, _⟩ := DataW.trod_int Try.underlying3 h0
  obtain ⟨z1, q1, _, _⟩ := DataW.trod_int Try.underlying3 h1
  obtain ⟨z2, q2, _, _⟩ := DataW.trod_int Try.underlying3 h2
  obtain ⟨z3, q3, _, _⟩ := DataW.trod_int Try.underlying3 h3
  obtain ⟨z4, q4, _, _⟩ := DataW.trod_int Try.underlying3 h4
  obtain ⟨z5, q5, _, _⟩ := DataW.trod_int Try.underlying3 h5
  obtain ⟨z6, q6, _, _⟩ := DataW.trod_int Try.underlying3 h6
  obtain ⟨z7, q7, _, _⟩ := DataW.trod_int Try.underlying3 h7
  obtain ⟨z8, q8, _, _⟩ := DataW.trod_int Try.underlying3 h8
  cases q0; cases q1; cases q2; cases q3; cases q4; cases q5; cases q6; cases q7; cases q8
  obtain ⟨sl, es, rfl, hE, _⟩ := open_log h9
  obtain ⟨a, b, c, d, e, h5, _⟩ := five_of (ti := 3) Try.underlying39 (by kernel_rfl) (by kernel_rfl) rfl (by
    intro j f hf
    have hj : j < 5 := (Array.getElem?_eq_some_iff.1 hf).1
    obtain rfl | rfl | rfl | rfl | rfl : j = 0 ∨ j = 1 ∨ j = 2 ∨ j = 3 ∨ j = 4 := by omega
    all_goals
      cases hf
      exact Try.underlying3) h10
  cases h5
  obtain ⟨zs, hz, h6, _⟩ := ints_of (k := 3) Try.underlying41 (by kernel_rfl) (by kernel_rfl) rfl (by
    intro j f hf
    have hj : j < 3 := (Array.getElem?_eq_some_iff.1 hf).1
    obtain rfl | rfl | rfl : j = 0 ∨ j = 1 ∨ j = 2 := by omega
    all_goals
      cases hf
      exact Try.underlying3) h11
  obtain ⟨u0, u1, u2, rfl⟩ := len3 hz
  simp only [List.map_cons, List.map_nil] at h6
  cases h6
  exact ⟨⟨⟨z0, z1, z2, z3, z4, z5, z6, z7, z8, es⟩, sl, (a, b, c, d, e), (u0, u1, u2)⟩, rfl, hE⟩

/-- A slice of mail that comes in. -/
theorem open_mails {r : Reach} {b0 : Nat} {v : Value} {d : DataW H} {p : List MemPlace} (hv : Value.okWide Try.prog w r b0 22 v) (h : DataW.Trod enc Try.prog w base spare held 22 v d p) :
    ∃ (A : Option Addr) (l : List MailV) (c : Nat), v = .slice A l.length c ∧ l.length ≤ c ∧ c ≤ 9223372036854775807 ∧ Mails w w.heap.size A l := by
  obtain ⟨A, l, c, rfl, h1, h2, h3, h4, _⟩ := open_sl mailE (q := fun x => LogAt w w.heap.size x.es x.m.ents) (by kernel_rfl) (fun n cs y h => open_mail h) hv h
  exact ⟨A, l, c, rfl, h1, h2, h3, h4⟩
/-- One piece of mail that comes in. -/
theorem open_mail_one {r : Reach} {b0 : Nat} {v : Value} {d : DataW H} {p : List MemPlace} (hv : Value.okWide Try.prog w r b0 43 v) (h : DataW.Trod enc Try.prog w base spare held 43 v d p) :
    ∃ x : MailV, v = .agg (mailv x).toArray ∧ LogAt w w.heap.size x.es x.m.ents := by
  obtain ⟨⟨l⟩, rfl, hsz⟩ := okWide_struct Try.underlying43 hv
  obtain ⟨fuel, hf⟩ := h
  obtain ⟨x, he, hw⟩ := open_mail (cs := l) hf
  subst he
  exact ⟨x, rfl, hw⟩
end
end Go.Proofs.Ytdphfhenjndkkaa
