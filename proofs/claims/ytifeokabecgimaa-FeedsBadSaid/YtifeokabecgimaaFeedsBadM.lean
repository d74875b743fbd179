/-
  The walk over a feed of all logs, merged by numbers.
  The walk over the statement FeedsBad.
-/
import Derived.Test.YtifeokabecgimaaFeedLives
import Derived.Test.YtifeokabecgimaaOpenNums
set_option linter.unusedSimpArgs false
set_option linter.unusedVariables false
set_option maxRecDepth 100000
namespace Go.Proofs.Ytifeokabecgimaa
open Go Go.RowKit Go.Sq Go.Wd Go.Arch

/-- Each place is the next one of its stream. -/
def AllGood (M : Logs4) (feed : List Spt) : Prop := ∀ j p, feed[j]? = some p → goodS M feed j p
theorem good_nil (M : Logs4) : AllGood M [] := fun j p h => by simp at h
theorem good_snoc {M : Logs4} {feed : List Spt} (h : AllGood M feed) {S : Nat} (hS : S < 4) (hl : cntS feed S < (M S).length) : AllGood M (feed ++ [((S : Int), (cntS feed S : Int))]) := fun j p hp => by
  by_cases hj : j < feed.length
  · rw [List.getElem?_append_left hj] at hp
    have := h j p hp
    unfold goodS at this ⊢
    rw [List.take_append_of_le_length (by omega)]
    exact this
  · have hj2 : j = feed.length := by
      have := (List.getElem?_eq_some_iff.1 hp).1
      simp at this
      omega
    subst hj2
    rw [List.getElem?_append_right (Nat.le_refl _), Nat.sub_self] at hp
    cases hp
    unfold goodS
    rw [List.take_append_of_le_length (Nat.le_refl _), List.take_length]
    refine ⟨Int.natCast_nonneg S, by show (S : Int) < 4; omega, rfl, ?_⟩
    show (cntS feed S : Int) < ((M (S : Int).toNat).length : Int)
    rw [show (S : Int).toNat = S from rfl]
    omega
theorem good_to {M : Logs4} {feed : List Spt} (h : AllGood M feed) : ∀ j, j ≤ feed.length → ∃ l, itemsTo M feed j = some l ∧ l.length = j
  | 0, _ => ⟨[], rfl, rfl⟩
  | j + 1, hj => by
    obtain ⟨l, hl, hn⟩ := good_to h j (by omega)
    obtain ⟨p, hp⟩ : ∃ p, feed[j]? = some p := ⟨_, List.getElem?_eq_getElem (by omega)⟩
    exact ⟨_, to_succ hl hp (h j p hp), by simp [hn]⟩
theorem cnt_snoc (feed : List Spt) (p : Spt) (s : Int) : cntS (feed ++ [p]) s = cntS feed s + (if p.1 = s then 1 else 0) := by
  unfold cntS
  rw [List.countP_append]
  simp [List.countP_cons]
def haveV (feed : List Spt) : Nat → Value := fun s => .int .i64 (cntS feed (s : Int))
theorem have_next (feed : List Spt) {S : Nat} (hS : S < 4) : (fourV (haveV feed)).set S (.int .i64 ((cntS feed S : Int) + 1)) = fourV (haveV (feed ++ [((S : Int), (cntS feed S : Int))])) := by
  rw [four_set _ hS]
  unfold fourV updV haveV
  simp only [cnt_snoc]
  obtain rfl | rfl | rfl | rfl : S = 0 ∨ S = 1 ∨ S = 2 ∨ S = 3 := by omega
  all_goals simp

/-- What a round holds on to: blocks w1.., the table of how many came. -/
def MgI (w1 w : World) (v : Value) (feed : List Spt) : Prop :=
  Below w1.heap.size w1 w ∧ Blk w w1.heap.size 92 (fourV (haveV feed)) ∧ Gr.Row spotE w (w1.heap.size + 1) v feed
theorem MgI.keep {w1 w w' : World} {v : Value} {feed : List Spt} (h : MgI w1 w v feed) (hb : Below w.heap.size w w') : MgI w1 w' v feed := ⟨below_trans h.1 hb h.1.size, h.2.1.keep hb, Gr.Row.keep h.2.2 hb⟩

theorem mg_below {B : Nat} {w w' : World} {row : Option Nat} (hg : w.grownBy w' row) (h1 : ∀ k, row = some k → B + 1 ≤ k) (hB : B ≤ w.heap.size) : Below B w w' :=
  ⟨hg.os, hg.tape, hg.output, hg.size, fun k hk => hg.block k (by omega) (fun e => by have := h1 k e.symm; omega)⟩

set_option maxHeartbeats 8000000 in
theorem merged_any (os : List Ord) (Ao : Option Addr) (co : Nat) (ts : List Int) (At_ : Option Addr) (ct : Nat) (w : World) (ho : Gr.Sl ordE w w.heap.size Ao os) (hol : os.length ≤ 60) (ht : Nums w w.heap.size At_ .u8 ts) (hw : ∀ x ∈ ts, 0 ≤ x ∧ x ≤ 255) (htl : ts.length ≤ 200) :
    Calls Try.prog 30 #[.agg #[.slice Ao os.length co], .slice At_ ts.length ct] w fun e w' => ∃ v feed, e = .returned v ∧ Gr.Row spotE w' w.heap.size v feed ∧ AllGood (logsO os) feed ∧ feed.length ≤ 500 ∧ Below w.heap.size w w' := by
  have hz : Below w.heap.size w (w.alloc (.cells #[.slice Ao os.length co] 55)) := (Below.refl _ _).alloc (Nat.le_refl _) _
  have H := Lib.hid (And.intro hz (And.intro (ho.keep hz) (And.intro (show Nums _ _ _ _ _ from (ht.below hz).more hz.size) hw)))
  clear hz ho ht hw
  go_enter Try.func30, Try.ntmps30
  go_wp2_with fail
  generalize (w.alloc (.cells #[.slice Ao os.length co] 55)) = w1 at H ⊢
  refine (logsOf_any os Ao co w1 H.out.2.1 (by omega)).mono ?_
  rintro e w2 ⟨As, cs, rfl, hL2, hb2⟩
  have hB2 := below_trans H.out.1 hb2 H.out.1.size
  have hal := (Below.refl w2.heap.size w2).alloc (Nat.le_refl _) (.cells (l4v As cs (logsO os)).toArray 60)
  have BX : Blk (w2.alloc (.cells #[.slice none 0 0, .slice none 0 0, .slice none 0 0, .slice none 0 0] 60)) w2.heap.size 60 [.slice none 0 0, .slice none 0 0, .slice none 0 0, .slice none 0 0] := Blk.new w2 _ _
  have H2 := Lib.hid (And.intro hB2 (And.intro hL2 hb2))
  clear hb2 hB2 hL2 hal
  go_wp2_with ((with_reducible refine at_list ?_); first | (refine wpList_store_own22 rfl 60 _ _ rfl _ (l4v As cs (logsO os)) rfl rfl _ _ (BX) logs4_info rfl (l4_one As cs (logsO os)) ?_; intro w3 S3 g3) | (with_reducible refine cut_at 6 rfl ?_))
  refine Cut.go ?_
  have hb3 := below_new22 g3
  have H3 := Lib.hid (And.intro (below_trans H2.out.1 hb3 H2.out.1.size) (And.intro (show ∀ i, i < 4 → w3.cell? ⟨w2.heap.size, i, none⟩ = some (.slice (As i) (logsO os i).length (cs i)) from fun i hi => (S3.cell i).trans (l4_at As cs (logsO os) hi)) (And.intro S3.lt (below_trans H2.out.2.2 hb3 H2.out.2.2.size))))
  clear hb3 g3 S3 BX H2
  have HI : Hid (MgI w3 (w3.alloc (.cells #[.int .i64 0, .int .i64 0, .int .i64 0, .int .i64 0] 92)) (.slice none 0 0) []) := Lib.hid ⟨(Below.refl _ _).alloc (Nat.le_refl _) _, Blk.new w3 _ _, Gr.Row.nil _ _⟩
  go_wp2_with fail
  generalize (w3.alloc (.cells #[.int .i64 0, .int .i64 0, .int .i64 0, .int .i64 0] 92)) = w4 at HI ⊢
  go_wp2_with fail
  go_loopg [7, 8, 9] (ts.length + 256) (fun q v i s wr => ∃ (j : Nat) (feed : List Spt), q = ts.length + 256 - j ∧ j ≤ ts.length + 256 ∧ i = .int .i64 j ∧ MgI w3 wr v feed ∧ AllGood (logsO os) feed ∧ feed.length ≤ j)
  case atStart => exact ⟨0, [], rfl, by omega, rfl, HI.out, good_nil _, Nat.le_refl _⟩
  case round =>
    clear HI
    obtain ⟨j, feed, hq, hj, rfl, hI, hG, hfl⟩ := hrel
    have AA : Aside (gk = ts.length + 256 - j) := hq
    have HI := Lib.hid (And.intro hI hG)
    clear hq hI hG
    have hji : ((ts.length + 256 : Nat) : Int) = (ts.length : Int) + 256 := by omega
    clear hji
    by_cases hlt : j < ts.length + 256
    · have hji : (j : Int) < (ts.length : Int) + 256 := by omega
      have hS : ∃ S : Nat, S < 4 ∧ ((j < ts.length ∧ ∃ b o x, At_ = some ⟨b, o, none⟩ ∧ (∀ w', Below w1.heap.size w1 w' → w'.cell? ⟨b, o + j, none⟩ = some (.int .u8 x)) ∧ 0 ≤ x ∧ x ≤ 255 ∧ Int.tmod x 4 = (S : Int)) ∨ (¬ j < ts.length ∧ Int.tmod (j : Int) 4 = (S : Int))) := by
        by_cases hjt : j < ts.length
        · obtain ⟨b, o, x, ha, hx, hc⟩ := H.out.2.2.1.at_ hjt
          have hr := H.out.2.2.2 x (List.mem_of_getElem? hx.out)
          refine ⟨(x % 4).toNat, by omega, .inl ⟨hjt, b, o, x, ha, hc, hr.1, hr.2, ?_⟩⟩
          rw [Int.tmod_eq_emod_of_nonneg hr.1]
          omega
        · refine ⟨j % 4, by omega, .inr ⟨hjt, ?_⟩⟩
          rw [Int.tmod_eq_emod_of_nonneg (by omega)]
          omega
      obtain ⟨S, hS4, hS⟩ := hS
      have hS4i : (S : Int) < 4 := by omega
      have hB1 := below_trans H3.out.2.2.2 HI.out.1.1 H3.out.2.2.2.size
      have FH : ∀ w', Below wr.heap.size wr w' → w'.cell? ⟨w3.heap.size, S, none⟩ = some (.int .i64 (cntS feed S)) ∧ w'.cell? ⟨w2.heap.size, S, none⟩ = some (.slice (As S) (logsO os S).length (cs S)) := fun w' hb =>
        ⟨(((HI.out.1.2.1.keep hb).cell S).trans (four_at (haveV feed) hS4)), ((below_trans HI.out.1.1 hb HI.out.1.1.size).cell (p := ⟨w2.heap.size, S, none⟩) H3.out.2.2.1).trans (H3.out.2.1 S hS4)⟩
      have hlo := logsO_le os S
      have hc60 : (logsO os S).length ≤ 60 := by omega
      have hj4 : Int.tmod (j : Int) 4 = ((j % 4 : Nat) : Int) := by
        rw [Int.tmod_eq_emod_of_nonneg (by omega)]
        omega
      have hsz := HI.out.1.2.1.lt
      obtain ⟨n, hn⟩ : ∃ z, cntS feed S = z := ⟨_, rfl⟩
      have HN := Lib.hid hn
      rw [hn] at FH
      clear hn hlo
      by_cases hcn : n < (logsO os S).length
      case' pos =>
        have hci : (n : Int) < ((logsO os S).length : Int) := by omega
        have hc64 : (n : Int) < 64 := by omega
        have hrow := Gr.Row.snoc (w := wr.drew) (Gr.Row.keep HI.out.1.2.2 (Below.refl _ _).drew) ((S : Int), (n : Int)) (by omega) (by show w3.heap.size + 1 ≤ wr.heap.size; omega) (H := wr.heap.size) rfl 52
        have HRW := Lib.hid hrow
        clear hrow
      case' neg =>
        have hci : ¬ (n : Int) < ((logsO os S).length : Int) := by omega
      all_goals
        rcases hS with ⟨hjt, b, o, x, rfl, hx, hx0, hx1, hS⟩ | ⟨hjt, hS⟩
        case' inl =>
          have hjti : (j : Int) < (ts.length : Int) := by omega
          have p0 := hx wr hB1
          clear hx hB1 hj4
        case' inr =>
          have hjti : ¬ (j : Int) < (ts.length : Int) := by omega
          clear hB1 hj4
      all_goals
        go_wp2_with fail
        refine wp_region_p ([(0, true), (1, true), (2, true), (3, true), (4, true), (5, true), (6, true), (7, true), (8, true), (9, true), (10, true), (11, true), (12, true), (13, true)]) (fun w' => Below wr.heap.size wr w') (by kernel_rfl) rfl (by kernel_rfl) (by kernel_rfl) ((Below.refl _ _).drew) rfl ?_
        intro KP RP TP hKP hTP hTP'
        simp only [pick, nth]
        go_wp2_with (first
          | (apply SeqP.skip; rfl; simp only [Act.put, List.setIfInBounds_toArray, List.set_cons_zero, List.set_cons_succ])
          | (apply SeqP.call; rfl; rfl; (intro w2 hw; have hw := hTP _ hw; ((obtain ⟨z0, z1⟩ := FH _ hw)); go_simp; exact ⟨rfl, rfl⟩); (intro w2 hw; have hw := hTP _ hw; ((obtain ⟨z0, z1⟩ := FH _ hw)); (first | fail)); simp only [Act.put, List.setIfInBounds_toArray, List.set_cons_zero, List.set_cons_succ])
          | (apply SeqP.pure; rfl; (intro w2 hw; have hw := hTP _ hw; ((obtain ⟨z0, z1⟩ := FH _ hw)); go_simp; with_reducible rfl); simp only [Act.put, List.setIfInBounds_toArray, List.set_cons_zero, List.set_cons_succ])
          | (apply SeqP.split; rfl; rfl; all_goals (intro hc; simp only [hc]; try simp only [beq_iff_eq, decide_eq_true_eq, beq_eq_false_iff_ne, decide_eq_false_iff_not, bne_iff_ne, ne_eq, Bool.not_eq_true', Bool.not_eq_false', Int.not_le, Int.not_lt, bne_eq_false_iff_eq, Bool.or_eq_true, Bool.and_eq_true, Bool.or_eq_false_iff] at hc)))
        apply SeqP.nil
        refine hKP _ _ (hTP' _ ((Below.refl _ _).drew)) ?_
        clear hKP hTP hTP'
      all_goals first
        | (obtain ⟨v', w5, hrun, hR5, hg5, _⟩ := HRW.out
           have hrun : (Builtin.append_ #[52, 52] 52 #[u7, .slice (some ⟨wr.heap.size, 0, none⟩) 1 1]).run Try.prog (wr.alloc (.cells #[.int .i64 (S : Int), .int .i64 (n : Int)] 71)).drew = .ok v' w5 := hrun
           have hlt7 := fun g => (HI.out.1.2.2).lt g
           have B5 : Blk w5 w3.heap.size 92 (fourV (haveV feed)) := (HI.out.1.2.1.drew).grown hg5 (fun e => by have := (hlt7 _ e.symm).1; omega)
           have z5 := (B5.cell S).trans (four_at (haveV feed) hS4)
           have f5 := B5.frozen S
           unfold haveV at z5
           rw [HN.out] at z5
           have z0 := (FH _ (Below.refl _ _).drew).1
           have hB5 : Below w3.heap.size w3 w5 := (HI.out.1.1.drew).trans (mg_below hg5 (fun g hg => (hlt7 g hg).1) (by show w3.heap.size ≤ wr.heap.size; omega))
           have HF := Lib.hid (show MgI w3 (w5.setCell ⟨w3.heap.size, S, none⟩ (.int .i64 ((n : Int) + 1))) v' (feed ++ [((S : Int), (n : Int))]) ∧ AllGood (logsO os) (feed ++ [((S : Int), (n : Int))]) from by
             have e1 := have_next feed hS4
             rw [HN.out] at e1
             refine ⟨⟨hB5.setCell (Nat.le_refl _) _, (B5.set S _).of_eq e1, Gr.Row.far hR5 (only_setCell (World.grownBy.refl w5 _) (.inl rfl) _) (Nat.lt_succ_self _)⟩, ?_⟩
             have := good_snoc HI.out.2 hS4 (by rw [HN.out]; exact hcn)
             rw [HN.out] at this
             exact this)
           clear hR5 hg5 hlt7 B5 hB5 FH HRW
           go_wp2_with (at_builtin; refine wpList_app rfl (by rfl) (by rfl) (by rfl) hrun ?_)
           go_roundg (ts.length + 256 - (j + 1))
           case measure => have hkk := AA.out; omega
           case rel => exact ⟨j + 1, _, rfl, by omega, by go_num, HF.out.1, HF.out.2, by simp; omega⟩)
        | (clear FH
           go_wp2_with fail
           go_roundg (ts.length + 256 - (j + 1))
           case measure => have hkk := AA.out; omega
           case rel => exact ⟨j + 1, feed, rfl, by omega, by go_num, HI.out.1.keep (Below.refl _ _).drew, HI.out.2, by omega⟩)
    · obtain rfl : j = ts.length + 256 := by omega
      have hji : ¬ (((ts.length + 256 : Nat) : Int)) < (ts.length : Int) + 256 := by omega
      have HR := Lib.hid (And.intro (Gr.Row.base HI.out.1.2.2 (show w.heap.size ≤ w3.heap.size + 1 by have := H3.out.1.size; omega)) (below_trans H3.out.1 HI.out.1.1 H3.out.1.size))
      go_wp2_with fail
      go_ret
      exact ⟨_, rfl, feed, HR.out.1, HI.out.2, by omega, HR.out.2⟩
end Go.Proofs.Ytifeokabecgimaa

namespace Go.Proofs.Ytifeokabecgimaa
open Go Go.RowKit Go.Sq Go.Wd Go.Arch

theorem fits_logs {os : List Ord} (h : os.length ≤ 60) : fits4 (logsO os) := by
  have h0 := logsO_le os 0
  have h1 := logsO_le os 1
  have h2 := logsO_le os 2
  have h3 := logsO_le os 3
  exact ⟨by omega, by omega, by omega, by omega⟩
theorem good_items {os : List Ord} (h : os.length ≤ 60) {feed : List Spt} (hg : AllGood (logsO os) feed) : ∃ l, itemsS (logsO os) feed = some l ∧ l.length = feed.length := by
  obtain ⟨l, h1, h2⟩ := good_to hg feed.length (Nat.le_refl _)
  exact ⟨l, by unfold itemsS; rw [if_pos (fits_logs h)]; exact h1, h2⟩
theorem to_range {M : Logs4} {feed : List Spt} : ∀ {j : Nat} {r : List IA}, itemsTo M feed j = some r → ∀ x ∈ r, 0 ≤ x.1.1 ∧ x.1.1 < 4
  | 0, r, h, x, hx => by cases h; cases hx
  | j + 1, r, h, x, hx => by
    conv at h => lhs; unfold itemsTo
    cases hj : itemsTo M feed j with
    | none => rw [hj] at h; cases h
    | some r' =>
      cases hp : feed[j]? with
      | none => rw [hj, hp] at h; cases h
      | some p =>
        rw [hj, hp] at h
        dsimp only at h
        split at h
        · rename_i hg
          cases h
          rcases List.mem_append.1 hx with hx | hx
          · exact to_range hj x hx
          · obtain rfl : x = itemA M p := by simpa using hx
            exact ⟨hg.1, hg.2.1⟩
        · cases h
theorem items_out {os : List Ord} {feed : List Spt} {l : List IA} (h : itemsS (logsO os) feed = some l) {s : Int} (hs : ¬ (0 ≤ s ∧ s < 4)) : itemsOf s l = [] := by
  unfold itemsS at h
  split at h
  · unfold itemsOf
    rw [List.filter_eq_nil_iff]
    intro x hx
    have := to_range h x hx
    simp
    omega
  · cases h

set_option maxHeartbeats 8000000 in
theorem feedsBad_walk (os : List Ord) (Ao : Option Addr) (co : Nat) (a b s : Int) (w : World) (ho : Gr.Sl ordE w w.heap.size Ao os) (hol : os.length ≤ 9223372036854775807) (hwf : ∀ o ∈ os, (Lit.int .i64 o.id).wf = true) (hbw : -9223372036854775808 ≤ b ∧ b ≤ 9223372036854775807) :
    Calls Try.prog 13 #[.agg #[.slice Ao os.length co], .agg #[.int .i64 a, .int .i64 b, .int .i64 s]] w fun e w' => e = .returned (.bool true) ∧ Below w.heap.size w w' := by
  have hz : Below w.heap.size w ((w.alloc (.cells #[.slice Ao os.length co] 55)).alloc (.cells #[.int .i64 a, .int .i64 b, .int .i64 s] 75)) := ((Below.refl _ _).alloc (Nat.le_refl _) _).alloc (by simp) _
  have BL := (Blk.new w 55 [.slice Ao os.length co]).alloc (.cells #[.int .i64 a, .int .i64 b, .int .i64 s] 75)
  have BN := Blk.new1 w (.cells #[.slice Ao os.length co] 55) 75 [.int .i64 a, .int .i64 b, .int .i64 s]
  have H := Lib.hid (And.intro hz (And.intro BL (And.intro BN (And.intro (ho.keep hz) hwf))))
  clear hz BL BN ho hwf
  go_enter Try.func13, Try.ntmps13
  go_wp2_with (first | fail)
  refine wp_region_p ([(0, true), (1, true), (2, true), (3, true), (4, true), (5, true), (6, true), (7, true), (8, true)]) (fun w' => w' = ((w.alloc (.cells #[.slice Ao os.length co] 55)).alloc (.cells #[.int .i64 a, .int .i64 b, .int .i64 s] 75)).drew) (by kernel_rfl) rfl (by kernel_rfl) (by kernel_rfl) (rfl) rfl ?_
  intro KP RP TP hKP hTP hTP'
  simp only [pick, nth]
  go_wp2_with (first
    | (apply SeqP.skip; rfl; simp only [Act.put, List.setIfInBounds_toArray, List.set_cons_zero, List.set_cons_succ])
    | (apply SeqP.call; rfl; rfl; (intro w2 hw; have hw := hTP _ hw; ((subst hw; have z0 := H.out.2.2.1.drew.cell 0; have z1 := H.out.2.2.1.drew.cell 1; have z2 := H.out.2.2.1.drew.cell 2; simp only [List.getElem?_cons_succ, List.getElem?_cons_zero] at z0 z1 z2)); go_simp; exact ⟨rfl, rfl⟩); (intro w2 hw; have hw := hTP _ hw; ((subst hw; have z0 := H.out.2.2.1.drew.cell 0; have z1 := H.out.2.2.1.drew.cell 1; have z2 := H.out.2.2.1.drew.cell 2; simp only [List.getElem?_cons_succ, List.getElem?_cons_zero] at z0 z1 z2)); (first | fail)); simp only [Act.put, List.setIfInBounds_toArray, List.set_cons_zero, List.set_cons_succ])
    | (apply SeqP.pure; rfl; (intro w2 hw; have hw := hTP _ hw; ((subst hw; have z0 := H.out.2.2.1.drew.cell 0; have z1 := H.out.2.2.1.drew.cell 1; have z2 := H.out.2.2.1.drew.cell 2; simp only [List.getElem?_cons_succ, List.getElem?_cons_zero] at z0 z1 z2)); go_simp; with_reducible rfl); simp only [Act.put, List.setIfInBounds_toArray, List.set_cons_zero, List.set_cons_succ])
    | (apply SeqP.split; rfl; rfl; all_goals (intro hc; simp only [hc]; try simp only [beq_iff_eq, decide_eq_true_eq, beq_eq_false_iff_ne, decide_eq_false_iff_not, bne_iff_ne, ne_eq, Bool.not_eq_true', Bool.not_eq_false', Int.not_le, Int.not_lt, bne_eq_false_iff_eq, Bool.or_eq_true, Bool.and_eq_true, Bool.or_eq_false_iff] at hc)))
  apply SeqP.nil
  refine hKP _ _ (hTP' _ (rfl)) ?_
  clear hKP hTP hTP'
  have H1 := Lib.hid (And.intro H.out.1.drew (And.intro H.out.2.1.drew (And.intro (show Gr.Sl ordE _ _ Ao os from H.out.2.2.2.1.keep (Below.refl _ _).drew) H.out.2.2.2.2)))
  clear H
  generalize ((w.alloc (.cells #[.slice Ao os.length co] 55)).alloc (.cells #[.int .i64 a, .int .i64 b, .int .i64 s] 75)).drew = w1 at H1 ⊢
  have x0 := H1.out.2.1.cell 0
  simp only [List.getElem?_cons_zero] at x0
  by_cases h60 : 60 < os.length
  case pos =>
    have h60i : (60 : Int) < (os.length : Int) := by omega
    go_wp2_with fail
    refine (lives_any _).mono ?_
    rintro r w2 ⟨rfl, hb⟩
    have hB := below_trans H1.out.1 hb H1.out.1.size
    go_wp2_with fail
    go_ret
    exact ⟨rfl, hB⟩
  have h60i : ¬ (60 : Int) < (os.length : Int) := by omega
  have ho60 : os.length ≤ 60 := by omega
  go_wp2_with fail
  have FB : ∀ w', Below w1.heap.size w1 w' → w'.cell? ⟨w.heap.size, 0, none⟩ = some (.slice Ao os.length co) := fun w' hw => (hw.cell (p := ⟨w.heap.size, 0, none⟩) H1.out.2.1.lt).trans x0
  refine wp_region_p ([(0, true), (2, true), (1, false), (3, false), (4, false), (5, true), (6, true), (7, true), (8, true), (9, true)]) (fun w' => Below w1.heap.size w1 w') (by kernel_rfl) rfl (by kernel_rfl) (by kernel_rfl) ((Below.refl _ _).drew) rfl ?_
  intro KP RP TP hKP hTP hTP'
  simp only [pick, nth]
  go_wp2_with (first
    | (apply SeqP.skip; rfl; simp only [Act.put, List.setIfInBounds_toArray, List.set_cons_zero, List.set_cons_succ])
    | (apply SeqP.call; rfl; rfl; (intro w2 hw; have hw := hTP _ hw; ((have z0 := FB _ hw)); go_simp; exact ⟨rfl, rfl⟩); (intro w2 hw; have hw := hTP _ hw; ((have z0 := FB _ hw)); (first | fail)); simp only [Act.put, List.setIfInBounds_toArray, List.set_cons_zero, List.set_cons_succ])
    | (apply SeqP.pure; rfl; (intro w2 hw; have hw := hTP _ hw; ((have z0 := FB _ hw)); go_simp; with_reducible rfl); simp only [Act.put, List.setIfInBounds_toArray, List.set_cons_zero, List.set_cons_succ])
    | (apply SeqP.split; rfl; rfl; all_goals (intro hc; simp only [hc]; try simp only [beq_iff_eq, decide_eq_true_eq, beq_eq_false_iff_ne, decide_eq_false_iff_not, bne_iff_ne, ne_eq, Bool.not_eq_true', Bool.not_eq_false', Int.not_le, Int.not_lt, bne_eq_false_iff_eq, Bool.or_eq_true, Bool.and_eq_true, Bool.or_eq_false_iff] at hc)))
  apply SeqP.eff
  · rfl
  intro KE hKE
  go_wp2_with fail
  refine (merged_any os Ao co [] none 0 w1.drew (H1.out.2.2.1.keep (Below.refl _ _).drew) ho60 (fun h => absurd h (by simp)) (by simp) (by simp)).mono ?_
  rintro e w2 ⟨v, feed, rfl, hR, hG, hfl, hb2⟩
  obtain ⟨A2, c2, rfl, k2, k2', hF2⟩ := Gr.Row.form hR
  have hB2 : Below w1.heap.size w1 w2 := (Below.refl _ _).drew.trans hb2
  refine hKE _ _ (hTP' _ hB2) ?_
  clear hKE KE hR hb2
  obtain ⟨l, hl, hll⟩ := good_items ho60 hG
  have hl500 : l.length ≤ 500 := by omega
  have HLL := Lib.hid hl
  clear hl hll
  apply SeqP.eff
  · rfl
  intro KE hKE
  go_wp2_with fail
  refine (logsOf_any os Ao co w2 (H1.out.2.2.1.keep hB2) (by omega)).mono ?_
  rintro e w3 ⟨As, cs, rfl, hL3, hb3⟩
  have hB3 := below_trans hB2 hb3 hB2.size
  refine hKE _ _ (hTP' _ hB3) ?_
  clear hKE KE
  apply SeqP.eff
  · rfl
  intro KE hKE
  go_wp2_with fail
  refine (items_val HLL.out (n := l.length) rfl As cs A2 c2 w3 hL3 (fun i _ => logsO_wf H1.out.2.2.2 i) (hF2.keep hb3) (by omega)).mono ?_
  rintro e w4 ⟨A4, c4, rfl, hI4, k4, k4', hA4, hb4⟩
  have hB4 := below_trans hB3 hb4 hB3.size
  refine hKE _ _ (hTP' _ hB4) ?_
  clear hKE KE
  go_wp2_with (first
    | (apply SeqP.skip; rfl; simp only [Act.put, List.setIfInBounds_toArray, List.set_cons_zero, List.set_cons_succ])
    | (apply SeqP.call; rfl; rfl; (intro w2 hw; have hw := hTP _ hw; (skip); go_simp; exact ⟨rfl, rfl⟩); (intro w2 hw; have hw := hTP _ hw; (skip); (first | fail)); simp only [Act.put, List.setIfInBounds_toArray, List.set_cons_zero, List.set_cons_succ])
    | (apply SeqP.pure; rfl; (intro w2 hw; have hw := hTP _ hw; (skip); go_simp; with_reducible rfl); simp only [Act.put, List.setIfInBounds_toArray, List.set_cons_zero, List.set_cons_succ])
    | (apply SeqP.split; rfl; rfl; all_goals (intro hc; simp only [hc]; try simp only [beq_iff_eq, decide_eq_true_eq, beq_eq_false_iff_ne, decide_eq_false_iff_not, bne_iff_ne, ne_eq, Bool.not_eq_true', Bool.not_eq_false', Int.not_le, Int.not_lt, bne_eq_false_iff_eq, Bool.or_eq_true, Bool.and_eq_true, Bool.or_eq_false_iff] at hc)))
  apply SeqP.nil
  refine hKP _ _ (hTP' _ (hB4)) ?_
  clear hKP hTP hTP'
  have HI := Lib.hid (And.intro hI4 (And.intro (below_trans H1.out.1 hB4 H1.out.1.size) (And.intro HLL.out hA4)))
  clear hI4 hB4 hB3 hB2 hb3 hb4 hL3 hF2 hG FB x0 hA4 HLL
  by_cases hg : 0 ≤ a ∧ a ≤ (l.length : Int) ∧ 0 ≤ b
  case' pos =>
    obtain ⟨F, rfl⟩ := Int.eq_ofNat_of_zero_le hg.1
    obtain ⟨K, rfl⟩ := Int.eq_ofNat_of_zero_le hg.2.2
    have hF : (F : Int) ≤ (l.length : Int) := hg.2.1
    clear hg
    go_wp2_with fail
    refine (page_any l A4 c4 F K w4 HI.out.1 (by omega) k4 HI.out.2.2.2 (by omega) (by omega) k4').mono ?_
    rintro e w5 ⟨v5, rfl, hI5, hb5⟩
    obtain ⟨A5, c5, rfl, _, _, _⟩ := hI5.form
    have H5 := Lib.hid (And.intro (HI.out.1.keep hb5) (below_trans HI.out.2.1 hb5 HI.out.2.1.size))
    clear hI5 hb5
  case' neg =>
    go_wp2_with fail
    refine (page_bad l A4 c4 a b w4 hg).mono ?_
    rintro e w5 ⟨rfl, rfl⟩
    have H5 := Lib.hid (And.intro HI.out.1 HI.out.2.1)
    have hcc : (a < 0) ∨ (0 ≤ a ∧ (l.length : Int) < a) ∨ (0 ≤ a ∧ a ≤ (l.length : Int) ∧ b < 0) := by omega
    clear hg
    rcases hcc with g0 | ⟨g0, g1⟩ | ⟨g0, g1, g2⟩
  all_goals
    by_cases hs : 0 ≤ s ∧ s < 4
    case' pos =>
      have hs0 := hs.1
      have hs4 := hs.2
      clear hs
      go_wp2_with fail
    case' neg =>
      have HO := Lib.hid (items_out HI.out.2.2.1 hs)
      have hcc : (s < 0) ∨ (0 ≤ s ∧ 4 ≤ s) := by omega
      clear hs
      rcases hcc with s0 | ⟨s0, s4⟩
      all_goals
        go_wp2_with fail
        refine (of_items l A4 c4 s _ H5.out.1 (by omega) HI.out.2.2.2).mono ?_
        rintro e w6 ⟨A6, c6, rfl, _, hb6⟩
        rw [HO.out]
        have H6 := Lib.hid (And.intro H5.out.1 (below_trans H5.out.2 hb6 H5.out.2.size))
        clear H5 hb6
        have H5 := H6
        clear H6
        go_wp2_with fail
  all_goals
    refine (lives_any _).mono ?_
    rintro r w7 ⟨rfl, hb7⟩
    have hB := below_trans H5.out.2 hb7 H5.out.2.size
    go_wp2_with fail
    go_ret
    exact ⟨rfl, hB⟩
end Go.Proofs.Ytifeokabecgimaa
