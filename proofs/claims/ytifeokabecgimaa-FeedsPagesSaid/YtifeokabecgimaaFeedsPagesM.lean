/-
  The walk over a feed of all logs, merged by numbers.
  The walk over a page, with the events' slices.
  The walk over the statement FeedsPages.
-/
import Derived.Test.YtifeokabecgimaaFeedLives
import Derived.Test.YtifeokabecgimaaOpenNums
import Derived.Test.YtifeokabecgimaaFeedPage
set_option linter.unusedSimpArgs false
set_option linter.unusedVariables false
set_option maxRecDepth 100000
namespace Go.Proofs.Ytifeokabecgimaa
open Go Go.RowKit Go.Sq Go.Wd Go.Arch

/-- Each place is the next one of its stream. -/
def AllGood (M : Logs4) (feed : List Spt) : Prop := ∀ j p, feed[j]? = some p → goodS M feed j p
theorem good_nil (M : Logs4) : AllGood M [] := fun j p h => by simp at h
theorem good_snoc {M : Logs4} {feed : List Spt} (h : AllGood M feed) {S : Nat} (hS : S < 4) (hl : cntS feed S < (M S).length) : AllGood M (feed ++ [((S : Int), (cntS feed S : Int))]) := fun j p hp => by
  by_cases hj : j < feed.length
  · rw [List.getElem?_append_left hj] at hp
    have := h j p hp
    unfold goodS at this ⊢
    rw [List.take_append_of_le_length (by omega)]
    exact this
  · have hj2 : j = feed.length := by
      have := (List.getElem?_eq_some_iff.1 hp).1
      simp at this
      omega
    subst hj2
    rw [List.getElem?_append_right (Nat.le_refl _), Nat.sub_self] at hp
    cases hp
    unfold goodS
    rw [List.take_append_of_le_length (Nat.le_refl _), List.take_length]
    refine ⟨Int.natCast_nonneg S, by show (S : Int) < 4; omega, rfl, ?_⟩
    show (cntS feed S : Int) < ((M (S : Int).toNat).length : Int)
    rw [show (S : Int).toNat = S from rfl]
    omega
theorem good_to {M : Logs4} {feed : List Spt} (h : AllGood M feed) : ∀ j, j ≤ feed.length → ∃ l, itemsTo M feed j = some l ∧ l.length = j
  | 0, _ => ⟨[], rfl, rfl⟩
  | j + 1, hj => by
    obtain ⟨l, hl, hn⟩ := good_to h j (by omega)
    obtain ⟨p, hp⟩ : ∃ p, feed[j]? = some p := ⟨_, List.getElem?_eq_getElem (by omega)⟩
    exact ⟨_, to_succ hl hp (h j p hp), by simp [hn]⟩
theorem cnt_snoc (feed : List Spt) (p : Spt) (s : Int) : cntS (feed ++ [p]) s = cntS feed s + (if p.1 = s then 1 else 0) := by
  unfold cntS
  rw [List.countP_append]
  simp [List.countP_cons]
def haveV (feed : List Spt) : Nat → Value := fun s => .int .i64 (cntS feed (s : Int))
theorem have_next (feed : List Spt) {S : Nat} (hS : S < 4) : (fourV (haveV feed)).set S (.int .i64 ((cntS feed S : Int) + 1)) = fourV (haveV (feed ++ [((S : Int), (cntS feed S : Int))])) := by
  rw [four_set _ hS]
  unfold fourV updV haveV
  simp only [cnt_snoc]
  obtain rfl | rfl | rfl | rfl : S = 0 ∨ S = 1 ∨ S = 2 ∨ S = 3 := by omega
  all_goals simp

/-- What a round holds on to: blocks w1.., the table of how many came. -/
def MgI (w1 w : World) (v : Value) (feed : List Spt) : Prop :=
  Below w1.heap.size w1 w ∧ Blk w w1.heap.size 92 (fourV (haveV feed)) ∧ Gr.Row spotE w (w1.heap.size + 1) v feed
theorem MgI.keep {w1 w w' : World} {v : Value} {feed : List Spt} (h : MgI w1 w v feed) (hb : Below w.heap.size w w') : MgI w1 w' v feed := ⟨below_trans h.1 hb h.1.size, h.2.1.keep hb, Gr.Row.keep h.2.2 hb⟩

theorem mg_below {B : Nat} {w w' : World} {row : Option Nat} (hg : w.grownBy w' row) (h1 : ∀ k, row = some k → B + 1 ≤ k) (hB : B ≤ w.heap.size) : Below B w w' :=
  ⟨hg.os, hg.tape, hg.output, hg.size, fun k hk => hg.block k (by omega) (fun e => by have := h1 k e.symm; omega)⟩

set_option maxHeartbeats 8000000 in
theorem merged_any (os : List Ord) (Ao : Option Addr) (co : Nat) (ts : List Int) (At_ : Option Addr) (ct : Nat) (w : World) (ho : Gr.Sl ordE w w.heap.size Ao os) (hol : os.length ≤ 60) (ht : Nums w w.heap.size At_ .u8 ts) (hw : ∀ x ∈ ts, 0 ≤ x ∧ x ≤ 255) (htl : ts.length ≤ 200) :
    Calls Try.prog 30 #[.agg #[.slice Ao os.length co], .slice At_ ts.length ct] w fun e w' => ∃ v feed, e = .returned v ∧ Gr.Row spotE w' w.heap.size v feed ∧ AllGood (logsO os) feed ∧ feed.length ≤ 500 ∧ Below w.heap.size w w' := by
  have hz : Below w.heap.size w (w.alloc (.cells #[.slice Ao os.length co] 55)) := (Below.refl _ _).alloc (Nat.le_refl _) _
  have H := Lib.hid (And.intro hz (And.intro (ho.keep hz) (And.intro (show Nums _ _ _ _ _ from (ht.below hz).more hz.size) hw)))
  clear hz ho ht hw
  go_enter Try.func30, Try.ntmps30
  go_wp2_with fail
  generalize (w.alloc (.cells #[.slice Ao os.length co] 55)) = w1 at H ⊢
  refine (logsOf_any os Ao co w1 H.out.2.1 (by omega)).mono ?_
  rintro e w2 ⟨As, cs, rfl, hL2, hb2⟩
  have hB2 := below_trans H.out.1 hb2 H.out.1.size
  have hal := (Below.refl w2.heap.size w2).alloc (Nat.le_refl _) (.cells (l4v As cs (logsO os)).toArray 60)
  have BX : Blk (w2.alloc (.cells #[.slice none 0 0, .slice none 0 0, .slice none 0 0, .slice none 0 0] 60)) w2.heap.size 60 [.slice none 0 0, .slice none 0 0, .slice none 0 0, .slice none 0 0] := Blk.new w2 _ _
  have H2 := Lib.hid (And.intro hB2 (And.intro hL2 hb2))
  clear hb2 hB2 hL2 hal
  go_wp2_with ((with_reducible refine at_list ?_); first | (refine wpList_store_own22 rfl 60 _ _ rfl _ (l4v As cs (logsO os)) rfl rfl _ _ (BX) logs4_info rfl (l4_one As cs (logsO os)) ?_; intro w3 S3 g3) | (with_reducible refine cut_at 6 rfl ?_))
  refine Cut.go ?_
  have hb3 := below_new22 g3
  have H3 := Lib.hid (And.intro (below_trans H2.out.1 hb3 H2.out.1.size) (And.intro (show ∀ i, i < 4 → w3.cell? ⟨w2.heap.size, i, none⟩ = some (.slice (As i) (logsO os i).length (cs i)) from fun i hi => (S3.cell i).trans (l4_at As cs (logsO os) hi)) (And.intro S3.lt (below_trans H2.out.2.2 hb3 H2.out.2.2.size))))
  clear hb3 g3 S3 BX H2
  have HI : Hid (MgI w3 (w3.alloc (.cells #[.int .i64 0, .int .i64 0, .int .i64 0, .int .i64 0] 92)) (.slice none 0 0) []) := Lib.hid ⟨(Below.refl _ _).alloc (Nat.le_refl _) _, Blk.new w3 _ _, Gr.Row.nil _ _⟩
  go_wp2_with fail
  generalize (w3.alloc (.cells #[.int .i64 0, .int .i64 0, .int .i64 0, .int .i64 0] 92)) = w4 at HI ⊢
  go_wp2_with fail
  go_loopg [7, 8, 9] (ts.length + 256) (fun q v i s wr => ∃ (j : Nat) (feed : List Spt), q = ts.length + 256 - j ∧ j ≤ ts.length + 256 ∧ i = .int .i64 j ∧ MgI w3 wr v feed ∧ AllGood (logsO os) feed ∧ feed.length ≤ j)
  case atStart => exact ⟨0, [], rfl, by omega, rfl, HI.out, good_nil _, Nat.le_refl _⟩
  case round =>
    clear HI
    obtain ⟨j, feed, hq, hj, rfl, hI, hG, hfl⟩ := hrel
    have AA : Aside (gk = ts.length + 256 - j) := hq
    have HI := Lib.hid (And.intro hI hG)
    clear hq hI hG
    have hji : ((ts.length + 256 : Nat) : Int) = (ts.length : Int) + 256 := by omega
    clear hji
    by_cases hlt : j < ts.length + 256
    · have hji : (j : Int) < (ts.length : Int) + 256 := by omega
      have hS : ∃ S : Nat, S < 4 ∧ ((j < ts.length ∧ ∃ b o x, At_ = some ⟨b, o, none⟩ ∧ (∀ w', Below w1.heap.size w1 w' → w'.cell? ⟨b, o + j, none⟩ = some (.int .u8 x)) ∧ 0 ≤ x ∧ x ≤ 255 ∧ Int.tmod x 4 = (S : Int)) ∨ (¬ j < ts.length ∧ Int.tmod (j : Int) 4 = (S : Int))) := by
        by_cases hjt : j < ts.length
        · obtain ⟨b, o, x, ha, hx, hc⟩ := H.out.2.2.1.at_ hjt
          have hr := H.out.2.2.2 x (List.mem_of_getElem? hx.out)
          refine ⟨(x % 4).toNat, by omega, .inl ⟨hjt, b, o, x, ha, hc, hr.1, hr.2, ?_⟩⟩
          rw [Int.tmod_eq_emod_of_nonneg hr.1]
          omega
        · refine ⟨j % 4, by omega, .inr ⟨hjt, ?_⟩⟩
          rw [Int.tmod_eq_emod_of_nonneg (by omega)]
          omega
      obtain ⟨S, hS4, hS⟩ := hS
      have hS4i : (S : Int) < 4 := by omega
      have hB1 := below_trans H3.out.2.2.2 HI.out.1.1 H3.out.2.2.2.size
      have FH : ∀ w', Below wr.heap.size wr w' → w'.cell? ⟨w3.heap.size, S, none⟩ = some (.int .i64 (cntS feed S)) ∧ w'.cell? ⟨w2.heap.size, S, none⟩ = some (.slice (As S) (logsO os S).length (cs S)) := fun w' hb =>
        ⟨(((HI.out.1.2.1.keep hb).cell S).trans (four_at (haveV feed) hS4)), ((below_trans HI.out.1.1 hb HI.out.1.1.size).cell (p := ⟨w2.heap.size, S, none⟩) H3.out.2.2.1).trans (H3.out.2.1 S hS4)⟩
      have hlo := logsO_le os S
      have hc60 : (logsO os S).length ≤ 60 := by omega
      have hj4 : Int.tmod (j : Int) 4 = ((j % 4 : Nat) : Int) := by
        rw [Int.tmod_eq_emod_of_nonneg (by omega)]
        omega
      have hsz := HI.out.1.2.1.lt
      obtain ⟨n, hn⟩ : ∃ z, cntS feed S = z := ⟨_, rfl⟩
      have HN := Lib.hid hn
      rw [hn] at FH
      clear hn hlo
      by_cases hcn : n < (logsO os S).length
      case' pos =>
        have hci : (n : Int) < ((logsO os S).length : Int) := by omega
        have hc64 : (n : Int) < 64 := by omega
        have hrow := Gr.Row.snoc (w := wr.drew) (Gr.Row.keep HI.out.1.2.2 (Below.refl _ _).drew) ((S : Int), (n : Int)) (by omega) (by show w3.heap.size + 1 ≤ wr.heap.size; omega) (H := wr.heap.size) rfl 52
        have HRW := Lib.hid hrow
        clear hrow
      case' neg =>
        have hci : ¬ (n : Int) < ((logsO os S).length : Int) := by omega
      all_goals
        rcases hS with ⟨hjt, b, o, x, rfl, hx, hx0, hx1, hS⟩ | ⟨hjt, hS⟩
        case' inl =>
          have hjti : (j : Int) < (ts.length : Int) := by omega
          have p0 := hx wr hB1
          clear hx hB1 hj4
        case' inr =>
          have hjti : ¬ (j : Int) < (ts.length : Int) := by omega
          clear hB1 hj4
      all_goals
        go_wp2_with fail
        refine wp_region_p ([(0, true), (1, true), (2, true), (3, true), (4, true), (5, true), (6, true), (7, true), (8, true), (9, true), (10, true), (11, true), (12, true), (13, true)]) (fun w' => Below wr.heap.size wr w') (by kernel_rfl) rfl (by kernel_rfl) (by kernel_rfl) ((Below.refl _ _).drew) rfl ?_
        intro KP RP TP hKP hTP hTP'
        simp only [pick, nth]
        go_wp2_with (first
          | (apply SeqP.skip; rfl; simp only [Act.put, List.setIfInBounds_toArray, List.set_cons_zero, List.set_cons_succ])
          | (apply SeqP.call; rfl; rfl; (intro w2 hw; have hw := hTP _ hw; ((obtain ⟨z0, z1⟩ := FH _ hw)); go_simp; exact ⟨rfl, rfl⟩); (intro w2 hw; have hw := hTP _ hw; ((obtain ⟨z0, z1⟩ := FH _ hw)); (first | fail)); simp only [Act.put, List.setIfInBounds_toArray, List.set_cons_zero, List.set_cons_succ])
          | (apply SeqP.pure; rfl; (intro w2 hw; have hw := hTP _ hw; ((obtain ⟨z0, z1⟩ := FH _ hw)); go_simp; with_reducible rfl); simp only [Act.put, List.setIfInBounds_toArray, List.set_cons_zero, List.set_cons_succ])
          | (apply SeqP.split; rfl; rfl; all_goals (intro hc; simp only [hc]; try simp only [beq_iff_eq, decide_eq_true_eq, beq_eq_false_iff_ne, decide_eq_false_iff_not, bne_iff_ne, ne_eq, Bool.not_eq_true', Bool.not_eq_false', Int.not_le, Int.not_lt, bne_eq_false_iff_eq, Bool.or_eq_true, Bool.and_eq_true, Bool.or_eq_false_iff] at hc)))
        apply SeqP.nil
        refine hKP _ _ (hTP' _ ((Below.refl _ _).drew)) ?_
        clear hKP hTP hTP'
      all_goals first
        | (obtain ⟨v', w5, hrun, hR5, hg5, _⟩ := HRW.out
           have hrun : (Builtin.append_ #[52, 52] 52 #[u7, .slice (some ⟨wr.heap.size, 0, none⟩) 1 1]).run Try.prog (wr.alloc (.cells #[.int .i64 (S : Int), .int .i64 (n : Int)] 71)).drew = .ok v' w5 := hrun
           have hlt7 := fun g => (HI.out.1.2.2).lt g
           have B5 : Blk w5 w3.heap.size 92 (fourV (haveV feed)) := (HI.out.1.2.1.drew).grown hg5 (fun e => by have := (hlt7 _ e.symm).1; omega)
           have z5 := (B5.cell S).trans (four_at (haveV feed) hS4)
           have f5 := B5.frozen S
           unfold haveV at z5
           rw [HN.out] at z5
           have z0 := (FH _ (Below.refl _ _).drew).1
           have hB5 : Below w3.heap.size w3 w5 := (HI.out.1.1.drew).trans (mg_below hg5 (fun g hg => (hlt7 g hg).1) (by show w3.heap.size ≤ wr.heap.size; omega))
           have HF := Lib.hid (show MgI w3 (w5.setCell ⟨w3.heap.size, S, none⟩ (.int .i64 ((n : Int) + 1))) v' (feed ++ [((S : Int), (n : Int))]) ∧ AllGood (logsO os) (feed ++ [((S : Int), (n : Int))]) from by
             have e1 := have_next feed hS4
             rw [HN.out] at e1
             refine ⟨⟨hB5.setCell (Nat.le_refl _) _, (B5.set S _).of_eq e1, Gr.Row.far hR5 (only_setCell (World.grownBy.refl w5 _) (.inl rfl) _) (Nat.lt_succ_self _)⟩, ?_⟩
             have := good_snoc HI.out.2 hS4 (by rw [HN.out]; exact hcn)
             rw [HN.out] at this
             exact this)
           clear hR5 hg5 hlt7 B5 hB5 FH HRW
           go_wp2_with (at_builtin; refine wpList_app rfl (by rfl) (by rfl) (by rfl) hrun ?_)
           go_roundg (ts.length + 256 - (j + 1))
           case measure => have hkk := AA.out; omega
           case rel => exact ⟨j + 1, _, rfl, by omega, by go_num, HF.out.1, HF.out.2, by simp; omega⟩)
        | (clear FH
           go_wp2_with fail
           go_roundg (ts.length + 256 - (j + 1))
           case measure => have hkk := AA.out; omega
           case rel => exact ⟨j + 1, feed, rfl, by omega, by go_num, HI.out.1.keep (Below.refl _ _).drew, HI.out.2, by omega⟩)
    · obtain rfl : j = ts.length + 256 := by omega
      have hji : ¬ (((ts.length + 256 : Nat) : Int)) < (ts.length : Int) + 256 := by omega
      have HR := Lib.hid (And.intro (Gr.Row.base HI.out.1.2.2 (show w.heap.size ≤ w3.heap.size + 1 by have := H3.out.1.size; omega)) (below_trans H3.out.1 HI.out.1.1 H3.out.1.size))
      go_wp2_with fail
      go_ret
      exact ⟨_, rfl, feed, HR.out.1, HI.out.2, by omega, HR.out.2⟩
end Go.Proofs.Ytifeokabecgimaa

namespace Go.Proofs.Ytifeokabecgimaa
open Go Go.RowKit Go.Sq Go.Wd Go.Arch

set_option maxHeartbeats 2000000 in
theorem clone_ps (ps : List (IA × Sl)) (A : Option Addr) (c : Nat) (w : World) (hs : Gr.Sl itemE w w.heap.size A ps) (hl : ps.length ≤ 100000) (hA : A = none → c = 0) :
    Calls Try.prog 43 #[.slice A ps.length c] w fun e w' => ∃ v, e = .returned v ∧ Gr.Row itemE w' w.heap.size v ps ∧ Below w.heap.size w w' := by
  have hw := Below.refl w.heap.size w
  cases A with
  | none =>
    have hn : ps = [] := by
      rcases Nat.eq_zero_or_pos ps.length with h0 | h0
      · exact List.eq_nil_of_length_eq_zero h0
      · obtain ⟨b, o, ha, _⟩ := hs h0
        cases ha
    subst hn
    obtain rfl := hA rfl
    have hq := eql_nilT Try.underlying56 none 0 0 w
    go_enter Try.func43, Try.ntmps43
    go_wp2_with fail
    go_ret
    exact ⟨_, rfl, Gr.Row.nil _ _, hw⟩
  | some a =>
    obtain ⟨v', w', hrun, hR, hb⟩ := Gr.copy_run (R := itemE) (some a) c hs hl 56
    have HH := Lib.hid (And.intro hR hb)
    have hq := eql_nilT Try.underlying56 (some a) ps.length c w
    clear hR hb hs hA
    go_enter Try.func43, Try.ntmps43
    go_wp2_with (at_builtin; refine wpList_app rfl (by rfl) (by rfl) (by rfl) hrun ?_)
    go_ret
    exact ⟨_, rfl, HH.out⟩
theorem sl_sub {w : World} {B : Nat} {a : Addr} {l : List (IA × Sl)} (h : Gr.Sl itemE w B (some a) l) (F K : Nat) : Gr.Sl itemE w B (some (a.add (F * 10))) ((l.drop F).take K) := by
  rcases Nat.eq_zero_or_pos l.length with h0 | h0
  · obtain rfl : l = [] := List.eq_nil_of_length_eq_zero h0
    simp only [List.drop_nil, List.take_nil]
    exact Gr.Sl.nil
  · obtain ⟨b, off, ha, hb, hc⟩ := id (h h0)
    cases ha
    rw [Gr.add_at]
    exact (h.drop F).take K

set_option maxHeartbeats 4000000 in
theorem page_ps (l : List (IA × Sl)) (A : Option Addr) (c F K : Nat) (w : World) (h : Gr.Sl itemE w w.heap.size A l) (hl : l.length ≤ 90000) (hc : l.length ≤ c) (hA : A = none → c = 0) (hF : F ≤ l.length) (hK : K ≤ 9223372036854775807) (hc2 : c ≤ 9223372036854775807) :
    Calls Try.prog 31 #[.slice A l.length c, .int .i64 F, .int .i64 K] w fun e w' => ∃ v, e = .returned (.tuple #[v, .int .i64 (F + pageN l.length F K : Nat), .int .i64 0]) ∧ Gr.Row itemE w' w.heap.size v ((l.drop F).take (pageN l.length F K)) ∧ Below w.heap.size w w' := by
  have hlen : ((l.drop F).take (pageN l.length F K)).length = pageN l.length F K := by rw [List.length_take, List.length_drop]; unfold pageN; omega
  have hp : pageN l.length F K ≤ l.length - F := Nat.min_le_right _ _
  obtain ⟨N, hN⟩ : ∃ z, pageN l.length F K = z := ⟨_, rfl⟩
  have hmin : min (K : Int) ((l.length : Int) - (F : Int)) = (N : Int) := by rw [← hN]; unfold pageN; omega
  rw [hN] at hlen hp ⊢
  have H := Lib.hid h
  have HN := Lib.hid hlen
  clear hN hlen h
  have h0 : ¬ (F : Int) < 0 := by omega
  have h1 : ¬ (l.length : Int) < (F : Int) := by omega
  have h2 : ¬ (K : Int) < 0 := by omega
  have hcc : (K : Int) ≤ (l.length : Int) - (F : Int) ∧ (N : Int) = K ∨ ¬ (K : Int) ≤ (l.length : Int) - (F : Int) ∧ (N : Int) = (l.length : Int) - F := by omega
  clear hmin
  cases A with
  | none =>
    obtain rfl := hA rfl
    obtain rfl : l = [] := List.eq_nil_of_length_eq_zero (by omega)
    simp only [List.length_nil] at *
    obtain rfl : F = 0 := by omega
    obtain rfl : N = 0 := by omega
    have hcc2 : (K : Int) ≤ 0 ∧ K = 0 ∨ ¬ (K : Int) ≤ 0 ∧ 0 < K := by omega
    clear hcc
    rcases hcc2 with ⟨h3, rfl⟩ | ⟨h3, _⟩
    all_goals
      go_enter Try.func31, Try.ntmps31
      go_wp2_with fail
      refine (clone_ps [] none 0 w Gr.Sl.nil (by simp) (fun _ => rfl)).mono ?_
      rintro e w1 ⟨v, rfl, hI, hb⟩
      go_wp2_with fail
      apply ret_of
      · simp only [results, Try.results31]
        go_simp
        with_reducible rfl
      exact ⟨rfl, v, by simp, hI, hb⟩
  | some a =>
    clear hA
    by_cases hcF : c = F
    case pos =>
      subst hcF
      obtain rfl : N = 0 := by omega
      have hcl : l.length = c := by omega
      rw [hcl] at *
      have hd : (l.drop c).take 0 = [] := by simp
      have HD := Lib.hid hd
      clear hd
      have HC := Lib.hid (clone_ps [] (some a) 0 w Gr.Sl.nil (by simp) (fun e => by cases e))
      rcases hcc with ⟨h3, h4⟩ | ⟨h3, h4⟩
      · obtain rfl : K = 0 := by omega
        clear h3 h4
        go_enter Try.func31, Try.ntmps31
        go_wp2_with fail
        refine HC.out.mono ?_
        rintro e w1 ⟨v, rfl, hI, hb⟩
        go_wp2_with fail
        apply ret_of
        · simp only [results, Try.results31]
          go_simp
          with_reducible rfl
        refine ⟨rfl, ?_⟩
        exact ⟨v, by simp, by rw [HD.out]; exact hI, hb⟩
      · clear h4
        go_enter Try.func31, Try.ntmps31
        go_wp2_with fail
        refine HC.out.mono ?_
        rintro e w1 ⟨v, rfl, hI, hb⟩
        go_wp2_with fail
        apply ret_of
        · simp only [results, Try.results31]
          go_simp
          with_reducible rfl
        refine ⟨rfl, ?_⟩
        exact ⟨v, by simp, by rw [HD.out]; exact hI, hb⟩
    case neg =>
      have hFc : ¬ (c : Int) ≤ (F : Int) := by omega
      have hcl := clone_ps ((l.drop F).take N) (some (a.add (F * 10))) (c - F) w (sl_sub H.out F N) (by rw [HN.out]; omega) (fun e => by cases e)
      rw [HN.out] at hcl
      have HC := Lib.hid hcl
      clear hcl
      rcases hcc with ⟨h3, h4⟩ | ⟨h3, h4⟩
      · obtain rfl : K = N := by omega
        clear h4
        go_enter Try.func31, Try.ntmps31
        go_wp2_with fail
        refine HC.out.mono ?_
        rintro e w1 ⟨v, rfl, hI, hb⟩
        go_wp2_with fail
        apply ret_of
        · simp only [results, Try.results31]
          go_simp
          with_reducible rfl
        refine ⟨rfl, ?_⟩
        exact ⟨v, by simp, hI, hb⟩
      · obtain rfl : N = l.length - F := by omega
        have e4 : (F : Int) + ((l.length : Int) - (F : Int)) = ((F + (l.length - F) : Nat) : Int) := by omega
        clear h4
        go_enter Try.func31, Try.ntmps31
        go_wp2_with fail
        refine HC.out.mono ?_
        rintro e w1 ⟨v, rfl, hI, hb⟩
        go_wp2_with fail
        apply ret_of
        · simp only [results, Try.results31]
          go_simp
          with_reducible rfl
        refine ⟨rfl, ?_⟩
        exact ⟨v, by rw [show F + (l.length - F) = l.length from by omega], hI, hb⟩
end Go.Proofs.Ytifeokabecgimaa

namespace Go.Proofs.Ytifeokabecgimaa
open Go Go.RowKit Go.Sq Go.Wd Go.Arch

theorem fits_logs {os : List Ord} (h : os.length ≤ 60) : fits4 (logsO os) := by
  have h0 := logsO_le os 0
  have h1 := logsO_le os 1
  have h2 := logsO_le os 2
  have h3 := logsO_le os 3
  exact ⟨by omega, by omega, by omega, by omega⟩
theorem good_items {os : List Ord} (h : os.length ≤ 60) {feed : List Spt} (hg : AllGood (logsO os) feed) : ∃ l, itemsS (logsO os) feed = some l ∧ l.length = feed.length := by
  obtain ⟨l, h1, h2⟩ := good_to hg feed.length (Nat.le_refl _)
  exact ⟨l, by unfold itemsS; rw [if_pos (fits_logs h)]; exact h1, h2⟩
/-- Items in memory: the cells, and where the events are. -/
def PsR (w : World) (A : Option Addr) (ps : List (IA × Sl)) : Prop := Gr.Sl itemE w w.heap.size A ps ∧ ∀ p ∈ ps, EvR w none p
theorem PsR.keep {w w' : World} {A : Option Addr} {ps : List (IA × Sl)} (h : PsR w A ps) (hb : Below w.heap.size w w') : PsR w' A ps := ⟨Gr.Sl.keep h.1 hb, fun p hp => (h.2 p hp).pure hb⟩
theorem PsR.items {w : World} {A : Option Addr} {ps : List (IA × Sl)} (h : PsR w A ps) : ItsR w A (ps.map (·.1)) := ⟨ps, rfl, h.1, h.2⟩
theorem items_ps {M : Logs4} {feed : List Spt} {l : List IA} (hv : itemsS M feed = some l) (As : Nat → Option Addr) (cs : Nat → Nat) (A : Option Addr) (c : Nat) (w : World) (HL : Logs4At w As cs M) (hwf : ∀ i, i < 4 → ∀ e ∈ M i, (Lit.int .i64 e.2.1).wf = true)
    (HF : Gr.Sl spotE w w.heap.size A feed) (hfl : feed.length ≤ 90000) :
    Calls Try.prog 26 #[.slice A feed.length c, .agg (l4v As cs M).toArray] w fun e w' => ∃ A' c' ps, e = .returned (.tuple #[.slice A' ps.length c', .int .i64 0]) ∧ ps.map (·.1) = l ∧ PsR w' A' ps ∧ ps.length ≤ c' ∧ c' ≤ 9223372036854775807 ∧ (A' = none → c' = 0) ∧ Below w.heap.size w w' := by
  refine (items_any M As cs feed A c w HL hwf HF hfl).mono ?_
  rintro e w' (⟨h, _⟩ | ⟨l', v, h, rfl, hI, hb⟩)
  · rw [hv] at h; cases h
  · rw [hv] at h
    cases h
    obtain ⟨ps, h1, h2, h3⟩ := id hI
    obtain ⟨A', c', rfl, k1, k2, hr⟩ := Gr.Row.form h2
    refine ⟨A', c', ps, rfl, h1, ⟨hr, fun p hp => (h3 p hp).any⟩, k1, k2, fun e => ?_, hb⟩
    subst e
    rcases h2.2 with ⟨h, _⟩ | ⟨g, cap, cur, h, _⟩
    · injection h
    · injection h with h1
      cases h1
theorem sameitems_n {l : List IA} {n : Nat} (hn : l.length = n) (A B : Option Addr) (c d : Nat) (w : World) (ha : ItsR w A l) (hb : ItsR w B l) (hl : n ≤ 9223372036854775807) :
    Calls Try.prog 29 #[.slice A n c, .slice B n d] w fun e w' => e = .returned (.bool true) ∧ Below w.heap.size w w' := by
  subst hn
  exact sameitems_any l A B c d w ha hb hl
/-- What a round holds on to: so many have come. -/
def PgI (w4 w : World) (v : Value) (ps : List (IA × Sl)) (a : Nat) : Prop := Below w4.heap.size w4 w ∧ Gr.Row itemE w w4.heap.size v (ps.take a)
theorem PgI.keep {w4 w w' : World} {v : Value} {ps : List (IA × Sl)} {a : Nat} (h : PgI w4 w v ps a) (hb : Below w.heap.size w w') : PgI w4 w' v ps a := ⟨below_trans h.1 hb h.1.size, Gr.Row.keep h.2 hb⟩
theorem take_page {α : Type} (l : List α) (a n : Nat) : l.take a ++ (l.drop a).take n = l.take (a + n) := List.take_add.symm

set_option maxHeartbeats 8000000 in
theorem feedsPages_walk (os : List Ord) (Ao : Option Addr) (co : Nat) (ts : List Int) (At_ : Option Addr) (ct : Nat) (ls : List Int) (Al : Option Addr) (cl : Nat) (w : World) (ho : Gr.Sl ordE w w.heap.size Ao os) (hol : os.length ≤ 9223372036854775807) (hwf : ∀ o ∈ os, (Lit.int .i64 o.id).wf = true)
    (ht : Nums w w.heap.size At_ .u8 ts) (htw : ∀ x ∈ ts, 0 ≤ x ∧ x ≤ 255) (htl : ts.length ≤ 9223372036854775807) (hls : Nums w w.heap.size Al .u8 ls) (hlw : ∀ x ∈ ls, 0 ≤ x ∧ x ≤ 255) (hll : ls.length ≤ 9223372036854775807) :
    Calls Try.prog 11 #[.agg #[.slice Ao os.length co], .slice At_ ts.length ct, .slice Al ls.length cl] w fun e w' => e = .returned (.bool true) ∧ Below w.heap.size w w' := by
  have hz : Below w.heap.size w (w.alloc (.cells #[.slice Ao os.length co] 55)) := (Below.refl _ _).alloc (Nat.le_refl _) _
  have BL := Blk.new w 55 [.slice Ao os.length co]
  have H1 := Lib.hid (And.intro hz (And.intro BL (And.intro (ho.keep hz) (And.intro hwf (And.intro (show Nums _ (w.alloc (.cells #[.slice Ao os.length co] 55)).heap.size _ _ _ from (ht.below hz).more hz.size) (And.intro htw (And.intro (show Nums _ (w.alloc (.cells #[.slice Ao os.length co] 55)).heap.size _ _ _ from (hls.below hz).more hz.size) hlw)))))))
  clear hz BL ho hwf ht htw hls hlw
  go_enter Try.func11, Try.ntmps11
  by_cases hout : 60 < os.length ∨ 200 < ts.length ∨ 100 < ls.length
  case pos =>
    have hcc : (60 : Int) < (os.length : Int) ∨ (¬ (60 : Int) < (os.length : Int) ∧ (200 : Int) < (ts.length : Int)) ∨ (¬ (60 : Int) < (os.length : Int) ∧ ¬ (200 : Int) < (ts.length : Int) ∧ (100 : Int) < (ls.length : Int)) := by omega
    clear hout
    rcases hcc with h1 | ⟨h1, h2⟩ | ⟨h1, h2, h3⟩
    all_goals
      go_wp2_with fail
      refine (lives_any _).mono ?_
      rintro r w1 ⟨rfl, hb⟩
      have hB := below_trans H1.out.1 hb H1.out.1.size
      go_wp2_with fail
      go_ret
      exact ⟨rfl, hB⟩
  have g1 : ¬ (60 : Int) < (os.length : Int) := by omega
  have g2 : ¬ (200 : Int) < (ts.length : Int) := by omega
  have g3 : ¬ (100 : Int) < (ls.length : Int) := by omega
  have ho60 : os.length ≤ 60 := by omega
  have ht200 : ts.length ≤ 200 := by omega
  have hl100 : ls.length ≤ 100 := by omega
  clear hout
  go_wp2_with fail
  generalize (w.alloc (.cells #[.slice Ao os.length co] 55)) = w1 at H1 ⊢
  have x0 := H1.out.2.1.cell 0
  simp only [List.getElem?_cons_zero] at x0
  have FB : ∀ w', Below w1.heap.size w1 w' → w'.cell? ⟨w.heap.size, 0, none⟩ = some (.slice Ao os.length co) := fun w' hw => (hw.cell (p := ⟨w.heap.size, 0, none⟩) H1.out.2.1.lt).trans x0
  refine wp_region_p ([(0, true), (1, true), (3, true), (2, false), (4, false), (5, false), (6, true), (7, true), (8, true), (9, true), (10, true)]) (fun w' => Below w1.heap.size w1 w') (by kernel_rfl) rfl (by kernel_rfl) (by kernel_rfl) ((Below.refl _ _).drew) rfl ?_
  intro KP RP TP hKP hTP hTP'
  simp only [pick, nth]
  go_wp2_with (first
    | (apply SeqP.skip; rfl; simp only [Act.put, List.setIfInBounds_toArray, List.set_cons_zero, List.set_cons_succ])
    | (apply SeqP.call; rfl; rfl; (intro w2 hw; have hw := hTP _ hw; ((have z0 := FB _ hw)); go_simp; exact ⟨rfl, rfl⟩); (intro w2 hw; have hw := hTP _ hw; ((have z0 := FB _ hw)); (first | fail)); simp only [Act.put, List.setIfInBounds_toArray, List.set_cons_zero, List.set_cons_succ])
    | (apply SeqP.pure; rfl; (intro w2 hw; have hw := hTP _ hw; ((have z0 := FB _ hw)); go_simp; with_reducible rfl); simp only [Act.put, List.setIfInBounds_toArray, List.set_cons_zero, List.set_cons_succ])
    | (apply SeqP.split; rfl; rfl; all_goals (intro hc; simp only [hc]; try simp only [beq_iff_eq, decide_eq_true_eq, beq_eq_false_iff_ne, decide_eq_false_iff_not, bne_iff_ne, ne_eq, Bool.not_eq_true', Bool.not_eq_false', Int.not_le, Int.not_lt, bne_eq_false_iff_eq, Bool.or_eq_true, Bool.and_eq_true, Bool.or_eq_false_iff] at hc)))
  apply SeqP.eff
  · rfl
  intro KE hKE
  go_wp2_with fail
  have hd := (Below.refl w1.heap.size w1).drew
  refine (merged_any os Ao co ts At_ ct w1.drew (H1.out.2.2.1.keep hd) ho60 ((H1.out.2.2.2.2.1.below hd).more hd.size) H1.out.2.2.2.2.2.1 ht200).mono ?_
  rintro e w2 ⟨v, feed, rfl, hR, hG, hfl, hb2⟩
  obtain ⟨A2, c2, rfl, k2, k2', hF2⟩ := Gr.Row.form hR
  have hB2 : Below w1.heap.size w1 w2 := (Below.refl _ _).drew.trans hb2
  refine hKE _ _ (hTP' _ hB2) ?_
  clear hKE KE hR hb2 hd
  obtain ⟨l, hl, hll2⟩ := good_items ho60 hG
  have hl500 : l.length ≤ 500 := by omega
  have HLL := Lib.hid hl
  clear hl hll2
  apply SeqP.eff
  · rfl
  intro KE hKE
  go_wp2_with fail
  refine (logsOf_any os Ao co w2 (H1.out.2.2.1.keep hB2) (by omega)).mono ?_
  rintro e w3 ⟨As, cs, rfl, hL3, hb3⟩
  have hB3 := below_trans hB2 hb3 hB2.size
  refine hKE _ _ (hTP' _ hB3) ?_
  clear hKE KE
  apply SeqP.eff
  · rfl
  intro KE hKE
  go_wp2_with fail
  refine (items_ps HLL.out As cs A2 c2 w3 hL3 (fun i _ => logsO_wf H1.out.2.2.2.1 i) (hF2.keep hb3) (by omega)).mono ?_
  rintro e w4 ⟨A4, c4, ps, rfl, hpl, hP4, k4, k4', hA4, hb4⟩
  have hB4 := below_trans hB3 hb4 hB3.size
  refine hKE _ _ (hTP' _ hB4) ?_
  clear hKE KE
  go_wp2_with (first
    | (apply SeqP.skip; rfl; simp only [Act.put, List.setIfInBounds_toArray, List.set_cons_zero, List.set_cons_succ])
    | (apply SeqP.call; rfl; rfl; (intro w2 hw; have hw := hTP _ hw; (skip); go_simp; exact ⟨rfl, rfl⟩); (intro w2 hw; have hw := hTP _ hw; (skip); (first | fail)); simp only [Act.put, List.setIfInBounds_toArray, List.set_cons_zero, List.set_cons_succ])
    | (apply SeqP.pure; rfl; (intro w2 hw; have hw := hTP _ hw; (skip); go_simp; with_reducible rfl); simp only [Act.put, List.setIfInBounds_toArray, List.set_cons_zero, List.set_cons_succ])
    | (apply SeqP.split; rfl; rfl; all_goals (intro hc; simp only [hc]; try simp only [beq_iff_eq, decide_eq_true_eq, beq_eq_false_iff_ne, decide_eq_false_iff_not, bne_iff_ne, ne_eq, Bool.not_eq_true', Bool.not_eq_false', Int.not_le, Int.not_lt, bne_eq_false_iff_eq, Bool.or_eq_true, Bool.and_eq_true, Bool.or_eq_false_iff] at hc)))
  apply SeqP.nil
  refine hKP _ _ (hTP' _ (hB4)) ?_
  clear hKP hTP hTP'
  have hp500 : ps.length ≤ 500 := by rw [← hpl, List.length_map] at hl500; exact hl500
  have H4 := Lib.hid (And.intro hP4 (And.intro (below_trans H1.out.1 hB4 H1.out.1.size) (And.intro hA4 (show ∀ w', Below w4.heap.size w4 w' → Below w1.heap.size w1 w' from fun w' hb => below_trans hB4 hb hB4.size))))
  clear hP4 hB4 hB3 hB2 hb3 hb4 hL3 hF2 hG FB x0 hA4 hpl HLL hl500 k2 k2' hfl
  have HI : Hid (PgI w4 w4 (.slice none 0 0) ps 0) := Lib.hid ⟨Below.refl _ _, Gr.Row.nil _ _⟩
  go_wp2_with fail
  go_loopg [9, 10, 11] (ls.length + ps.length) (fun q v a i wr => ∃ (j m : Nat), q = (ls.length - j) + (ps.length - m) ∧ m ≤ ps.length ∧ a = .int .i64 m ∧ i = .int .i64 j ∧ (j ≤ ls.length ∨ m = ps.length ∧ j ≤ ls.length + 1) ∧ PgI w4 wr v ps m)
  case atStart => exact ⟨0, 0, rfl, by omega, rfl, rfl, .inl (Nat.zero_le _), HI.out⟩
  case round =>
    clear HI
    obtain ⟨j, m, hq, hm, rfl, rfl, hj9, hI⟩ := hrel
    have AA : Aside (gk = (ls.length - j) + (ps.length - m)) := hq
    have HI := Lib.hid hI
    clear hq hI
    by_cases hlt : m < ps.length
    · have hlti : (m : Int) < (ps.length : Int) := by omega
      have hjl : j ≤ ls.length := by
        rcases hj9 with h | ⟨h, _⟩
        · exact h
        · omega
      clear hj9
      obtain ⟨a4, ha4⟩ : ∃ a, A4 = some a := by
        obtain ⟨b, o, ha, _⟩ := H4.out.1.1 (by omega)
        exact ⟨_, ha⟩
      subst ha4
      have hP := Lib.hid (H4.out.1.keep HI.out.1)
      have hK : ∃ K : Nat, (j < ls.length ∧ K ≤ 6 ∧ ∃ b o x, Al = some ⟨b, o, none⟩ ∧ wr.cell? ⟨b, o + j, none⟩ = some (.int .u8 x) ∧ 0 ≤ x ∧ x ≤ 255 ∧ Int.tmod x 7 = (K : Int)) ∨ (¬ j < ls.length ∧ K = ps.length) := by
        by_cases hjt : j < ls.length
        · obtain ⟨b, o, x, ha, hx, hc⟩ := H1.out.2.2.2.2.2.2.1.at_ hjt
          have hr := H1.out.2.2.2.2.2.2.2 x (List.mem_of_getElem? hx.out)
          refine ⟨(x % 7).toNat, .inl ⟨hjt, by omega, b, o, x, ha, hc wr (H4.out.2.2.2 _ HI.out.1), hr.1, hr.2, ?_⟩⟩
          rw [Int.tmod_eq_emod_of_nonneg hr.1]
          omega
        · exact ⟨ps.length, .inr ⟨hjt, rfl⟩⟩
      obtain ⟨K, hK⟩ := hK
      have hK9 : K ≤ 600 := by
        rcases hK with ⟨_, h, _⟩ | ⟨_, h⟩
        · omega
        · omega
      have hpr : j < ls.length ∨ m < m + pageN ps.length m K ∧ m + pageN ps.length m K = ps.length := by
        rcases hK with ⟨h, _⟩ | ⟨_, h⟩
        · exact .inl h
        · subst h
          unfold pageN
          exact .inr ⟨by omega, by omega⟩
      obtain ⟨N, hN⟩ : ∃ z, pageN ps.length m K = z := ⟨_, rfl⟩
      have hNle : m + N ≤ ps.length := by rw [← hN]; unfold pageN; omega
      have hNc : (m : Int) + K ≤ ps.length ∧ N = K ∨ ¬ (m : Int) + K ≤ ps.length ∧ m + N = ps.length := by rw [← hN]; unfold pageN; omega
      have hp1 := page_ps ps (some a4) c4 m K wr hP.out.1 (by omega) k4 (fun e => by cases e) hm (by omega) k4'
      rw [hN] at hp1 hpr
      obtain ⟨nx, hnx⟩ : ∃ z, m + N = z := ⟨_, rfl⟩
      rw [hnx] at hp1 hNle hpr
      have HP1 := Lib.hid hp1
      have HX := Lib.hid (And.intro hnx hpr)
      have hlN : ((ps.drop m).take N).length = N := by rw [List.length_take, List.length_drop]; omega
      have HlN := Lib.hid hlN
      have hsub : (nx : Int) - (m : Int) = (N : Int) := by omega
      have hNN : ((N : Int) != (N : Int)) = false := by simp
      have hxx : ((nx : Int) != (nx : Int)) = false := by simp
      have hLL : ((ps.length : Int) != (ps.length : Int)) = false := by simp
      have hcK : (∃ h3 : (m : Int) + K ≤ ps.length, (m : Int) + K = nx) ∨ (∃ h3 : ¬ (m : Int) + K ≤ ps.length, nx = ps.length) := by
        rcases hNc with ⟨h, h2⟩ | ⟨h, h2⟩
        · exact .inl ⟨h, by omega⟩
        · exact .inr ⟨h, by omega⟩
      have hp2 : ∀ w', Gr.Sl itemE w' w'.heap.size (some a4) ps → Calls Try.prog 31 #[.slice (some a4) ps.length c4, .int .i64 nx, .int .i64 ps.length] w' fun e w'' => ∃ v, e = .returned (.tuple #[v, .int .i64 ps.length, .int .i64 0]) ∧ Gr.Row itemE w'' w'.heap.size v (ps.drop nx) ∧ Below w'.heap.size w' w'' := fun w' h => by
        have h1 := page_ps ps (some a4) c4 nx ps.length w' h (by omega) k4 (fun e => by cases e) (by omega) (by omega) k4'
        have e2 : pageN ps.length nx ps.length = ps.length - nx := by unfold pageN; omega
        rw [e2, show nx + (ps.length - nx) = ps.length by omega, show (ps.drop nx).take (ps.length - nx) = ps.drop nx from List.take_of_length_le (by simp)] at h1
        exact h1
      have HD := Lib.hid (show (ps.drop nx).length = ps.length - nx by simp)
      clear hp1 hlN hN hNc hnx hpr
      rcases hK with ⟨hjt, _, b, o, x, rfl, hx, hx0, hx1, hS⟩ | ⟨hjt, hS⟩
      case' inl =>
        have hjti : (j : Int) < (ls.length : Int) := by omega
      case' inr =>
        subst hS
        have hjti : ¬ (j : Int) < (ls.length : Int) := by omega
      all_goals
        go_wp2_with fail
        refine HP1.out.mono ?_
        rintro e w5 ⟨v5, rfl, hR5, hb5⟩
        obtain ⟨A5, c5, rfl, k5, k5', hs5⟩ := Gr.Row.form hR5
        rw [HlN.out]
        have HR5 := Lib.hid (And.intro hs5 (And.intro (hP.out.keep hb5) (HI.out.keep hb5)))
        clear hR5 hs5 hb5 k5 k5'
        rcases hcK with ⟨h3, h4⟩ | ⟨h3, h4⟩
        case' inr =>
          have hnl : ((nx : Int) != (ps.length : Int)) = false := by simp [h4]
          clear h4
      all_goals
        go_wp2_with fail
        refine (hp2 w5 HR5.out.2.1.1).mono ?_
        rintro e w6 ⟨v6, rfl, hR6, hb6⟩
        obtain ⟨A6, c6, rfl, k6, k6', hs6⟩ := Gr.Row.form hR6
        rw [HD.out]
        have HR6 := Lib.hid (And.intro (show ItsR w6 A6 _ from ⟨_, rfl, hs6, fun p hp => (((HR5.out.2.1.keep hb6).2 p (List.mem_of_mem_drop hp)))⟩) (And.intro (HR5.out.2.1.keep hb6) (And.intro (HR5.out.2.2.keep hb6) (Gr.Sl.keep HR5.out.1 hb6))))
        clear hR6 hs6 hb6 k6 k6' HR5
        have hnxl : nx ≤ ps.length := hNle
        by_cases hcn : c4 = nx
        case' pos =>
          subst hcn
          have HS := Lib.hid (show ItsR w6 (some a4) ((ps.drop c4).map (·.1)) from by
            have : ps.drop c4 = [] := List.drop_eq_nil_of_le (by omega)
            rw [this]
            exact ItsR.nil)
        case' neg =>
          have HS := Lib.hid (show ItsR w6 (some (a4.add (nx * 10))) ((ps.drop nx).map (·.1)) from ⟨_, rfl, by
            have h := sl_sub HR6.out.2.1.1 nx (ps.length - nx)
            rw [show (ps.drop nx).take (ps.length - nx) = ps.drop nx from List.take_of_length_le (by simp)] at h
            exact h, fun p hp => (HR6.out.2.1.2 p (List.mem_of_mem_drop hp))⟩)
      all_goals
        go_wp2_with fail
        refine (sameitems_n (by first | (simp; done) | (simp; omega)) _ _ _ _ w6 HR6.out.1 HS.out (by omega)).mono ?_
        rintro e w7 ⟨rfl, hb7⟩
        have HI7 := Lib.hid (HR6.out.2.2.1.keep hb7)
        have hrow := Gr.Row.app (m := (ps.drop m).take N) HI7.out.2 A5 c5 (Gr.Sl.keep HR6.out.2.2.2 hb7) (by rw [HlN.out, List.length_take]; omega) HI7.out.1.size 56
        rw [HlN.out, take_page, HX.out.1] at hrow
        obtain ⟨v8, w8, hrun, hR8, hg8, _⟩ := hrow
        have HI8 := Lib.hid (show PgI w4 w8 v8 ps _ from ⟨Gr.below_row HI7.out.1 hg8 HI7.out.2 HI7.out.1.size, hR8⟩)
        clear hR8 hg8 hb7 HR6 HS HI7 hp2 hP HP1
        go_wp2_with (at_builtin; refine wpList_app rfl (by rfl) (by rfl) (by rfl) hrun ?_)
        first
          | (go_roundg ((ls.length - (j + 1)) + (ps.length - nx))
             case measure => have hkk := AA.out; have h5 := HX.out; omega
             case rel => exact ⟨j + 1, nx, rfl, by omega, rfl, by go_num, by have h5 := HX.out; omega, HI8.out⟩)
          | (go_roundg ((ls.length - (j + 1)) + (ps.length - c4))
             case measure => have hkk := AA.out; have h5 := HX.out; omega
             case rel => exact ⟨j + 1, c4, rfl, by omega, rfl, by go_num, by have h5 := HX.out; omega, HI8.out⟩)
    · obtain rfl : m = ps.length := by omega
      have hlti : ¬ (ps.length : Int) < (ps.length : Int) := by omega
      have hLL : ((ps.length : Int) == (ps.length : Int)) = true := by simp
      have hP := Lib.hid (H4.out.1.keep HI.out.1)
      have hp5 := page_ps ps A4 c4 ps.length 5 wr hP.out.1 (by omega) k4 H4.out.2.2.1 (Nat.le_refl _) (by omega) k4'
      have e2 : pageN ps.length ps.length 5 = 0 := by unfold pageN; omega
      rw [e2, Nat.add_zero, List.take_zero] at hp5
      have HP5 := Lib.hid hp5
      have hra := HI.out.2
      rw [List.take_length] at hra
      obtain ⟨A9, c9, rfl, k9, k9', hs9⟩ := Gr.Row.form hra
      have HS9 := Lib.hid (show ItsR wr A9 (ps.map (·.1)) from ⟨ps, rfl, hs9, fun p hp => hP.out.2 p hp⟩)
      clear hp5 e2 hra hs9
      go_wp2_with fail
      refine HP5.out.mono ?_
      rintro e w5 ⟨v5, rfl, hR5, hb5⟩
      obtain ⟨A5, c5, rfl, k5, k5', _⟩ := Gr.Row.form hR5
      have hB5 := below_trans HI.out.1 hb5 HI.out.1.size
      have HS5 := Lib.hid (And.intro (HS9.out.keep hb5) (hP.out.keep hb5).items)
      clear hR5 hb5 HS9 HP5 hP
      go_wp2_with fail
      refine (sameitems_n (l := ps.map (·.1)) (n := ps.length) (by simp) _ _ _ _ w5 HS5.out.1 HS5.out.2 (by omega)).mono ?_
      rintro e w6 ⟨rfl, hb6⟩
      have hB6 := below_trans hB5 hb6 hB5.size
      clear hb6 HS5 hB5
      go_wp2_with fail
      refine (lives_any _).mono ?_
      rintro r w7 ⟨rfl, hb7⟩
      have hB := below_trans H4.out.2.1 (below_trans hB6 hb7 hB6.size) H4.out.2.1.size
      go_wp2_with fail
      go_ret
      exact ⟨rfl, hB⟩
end Go.Proofs.Ytifeokabecgimaa
