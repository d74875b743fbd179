/-
  The walk over a feed of all logs, merged by numbers.
  Plain laws of feeds: a stream's items, versions.
  Plain laws of feeds: a beginning's items; a stream's items, one by one.
  The walk over the statement FeedsGrow.
-/
import Derived.Test.YtifeokabecgimaaFeedLives
import Derived.Test.YtifeokabecgimaaOpenNums
import Derived.Test.YtifeokabecgimaaFeedSpec
import Derived.Test.YtifeokabecgimaaFoldLaws2
import Derived.Test.YtifeokabecgimaaRef12A
set_option linter.unusedSimpArgs false
set_option linter.unusedVariables false
set_option maxRecDepth 100000
namespace Go.Proofs.Ytifeokabecgimaa
open Go Go.RowKit Go.Sq Go.Wd Go.Arch

/-- Each place is the next one of its stream. -/
def AllGood (M : Logs4) (feed : List Spt) : Prop := ∀ j p, feed[j]? = some p → goodS M feed j p
theorem good_nil (M : Logs4) : AllGood M [] := fun j p h => by simp at h
theorem good_snoc {M : Logs4} {feed : List Spt} (h : AllGood M feed) {S : Nat} (hS : S < 4) (hl : cntS feed S < (M S).length) : AllGood M (feed ++ [((S : Int), (cntS feed S : Int))]) := fun j p hp => by
  by_cases hj : j < feed.length
  · rw [List.getElem?_append_left hj] at hp
    have := h j p hp
    unfold goodS at this ⊢
    rw [List.take_append_of_le_length (by omega)]
    exact this
  · have hj2 : j = feed.length := by
      have := (List.getElem?_eq_some_iff.1 hp).1
      simp at this
      omega
    subst hj2
    rw [List.getElem?_append_right (Nat.le_refl _), Nat.sub_self] at hp
    cases hp
    unfold goodS
    rw [List.take_append_of_le_length (Nat.le_refl _), List.take_length]
    refine ⟨Int.natCast_nonneg S, by show (S : Int) < 4; omega, rfl, ?_⟩
    show (cntS feed S : Int) < ((M (S : Int).toNat).length : Int)
    rw [show (S : Int).toNat = S from rfl]
    omega
theorem good_to {M : Logs4} {feed : List Spt} (h : AllGood M feed) : ∀ j, j ≤ feed.length → ∃ l, itemsTo M feed j = some l ∧ l.length = j
  | 0, _ => ⟨[], rfl, rfl⟩
  | j + 1, hj => by
    obtain ⟨l, hl, hn⟩ := good_to h j (by omega)
    obtain ⟨p, hp⟩ : ∃ p, feed[j]? = some p := ⟨_, List.getElem?_eq_getElem (by omega)⟩
    exact ⟨_, to_succ hl hp (h j p hp), by simp [hn]⟩
theorem cnt_snoc (feed : List Spt) (p : Spt) (s : Int) : cntS (feed ++ [p]) s = cntS feed s + (if p.1 = s then 1 else 0) := by
  unfold cntS
  rw [List.countP_append]
  simp [List.countP_cons]
def haveV (feed : List Spt) : Nat → Value := fun s => .int .i64 (cntS feed (s : Int))
theorem have_next (feed : List Spt) {S : Nat} (hS : S < 4) : (fourV (haveV feed)).set S (.int .i64 ((cntS feed S : Int) + 1)) = fourV (haveV (feed ++ [((S : Int), (cntS feed S : Int))])) := by
  rw [four_set _ hS]
  unfold fourV updV haveV
  simp only [cnt_snoc]
  obtain rfl | rfl | rfl | rfl : S = 0 ∨ S = 1 ∨ S = 2 ∨ S = 3 := by omega
  all_goals simp

/-- What a round holds on to: blocks w1.., the table of how many came. -/
def MgI (w1 w : World) (v : Value) (feed : List Spt) : Prop :=
  Below w1.heap.size w1 w ∧ Blk w w1.heap.size 92 (fourV (haveV feed)) ∧ Gr.Row spotE w (w1.heap.size + 1) v feed
theorem MgI.keep {w1 w w' : World} {v : Value} {feed : List Spt} (h : MgI w1 w v feed) (hb : Below w.heap.size w w') : MgI w1 w' v feed := ⟨below_trans h.1 hb h.1.size, h.2.1.keep hb, Gr.Row.keep h.2.2 hb⟩

theorem mg_below {B : Nat} {w w' : World} {row : Option Nat} (hg : w.grownBy w' row) (h1 : ∀ k, row = some k → B + 1 ≤ k) (hB : B ≤ w.heap.size) : Below B w w' :=
  ⟨hg.os, hg.tape, hg.output, hg.size, fun k hk => hg.block k (by omega) (fun e => by have := h1 k e.symm; omega)⟩

set_option maxHeartbeats 8000000 in
theorem merged_any (os : List Ord) (Ao : Option Addr) (co : Nat) (ts : List Int) (At_ : Option Addr) (ct : Nat) (w : World) (ho : Gr.Sl ordE w w.heap.size Ao os) (hol : os.length ≤ 60) (ht : Nums w w.heap.size At_ .u8 ts) (hw : ∀ x ∈ ts, 0 ≤ x ∧ x ≤ 255) (htl : ts.length ≤ 200) :
    Calls Try.prog 30 #[.agg #[.slice Ao os.length co], .slice At_ ts.length ct] w fun e w' => ∃ v feed, e = .returned v ∧ Gr.Row spotE w' w.heap.size v feed ∧ AllGood (logsO os) feed ∧ feed.length ≤ 500 ∧ Below w.heap.size w w' := by
  have hz : Below w.heap.size w (w.alloc (.cells #[.slice Ao os.length co] 55)) := (Below.refl _ _).alloc (Nat.le_refl _) _
  have H := Lib.hid (And.intro hz (And.intro (ho.keep hz) (And.intro (show Nums _ _ _ _ _ from (ht.below hz).more hz.size) hw)))
  clear hz ho ht hw
  go_enter Try.func30, Try.ntmps30
  go_wp2_with fail
  generalize (w.alloc (.cells #[.slice Ao os.length co] 55)) = w1 at H ⊢
  refine (logsOf_any os Ao co w1 H.out.2.1 (by omega)).mono ?_
  rintro e w2 ⟨As, cs, rfl, hL2, hb2⟩
  have hB2 := below_trans H.out.1 hb2 H.out.1.size
  have hal := (Below.refl w2.heap.size w2).alloc (Nat.le_refl _) (.cells (l4v As cs (logsO os)).toArray 60)
  have BX : Blk (w2.alloc (.cells #[.slice none 0 0, .slice none 0 0, .slice none 0 0, .slice none 0 0] 60)) w2.heap.size 60 [.slice none 0 0, .slice none 0 0, .slice none 0 0, .slice none 0 0] := Blk.new w2 _ _
  have H2 := Lib.hid (And.intro hB2 (And.intro hL2 hb2))
  clear hb2 hB2 hL2 hal
  go_wp2_with ((with_reducible refine at_list ?_); first | (refine wpList_store_own22 rfl 60 _ _ rfl _ (l4v As cs (logsO os)) rfl rfl _ _ (BX) logs4_info rfl (l4_one As cs (logsO os)) ?_; intro w3 S3 g3) | (with_reducible refine cut_at 6 rfl ?_))
  refine Cut.go ?_
  have hb3 := below_new22 g3
  have H3 := Lib.hid (And.intro (below_trans H2.out.1 hb3 H2.out.1.size) (And.intro (show ∀ i, i < 4 → w3.cell? ⟨w2.heap.size, i, none⟩ = some (.slice (As i) (logsO os i).length (cs i)) from fun i hi => (S3.cell i).trans (l4_at As cs (logsO os) hi)) (And.intro S3.lt (below_trans H2.out.2.2 hb3 H2.out.2.2.size))))
  clear hb3 g3 S3 BX H2
  have HI : Hid (MgI w3 (w3.alloc (.cells #[.int .i64 0, .int .i64 0, .int .i64 0, .int .i64 0] 92)) (.slice none 0 0) []) := Lib.hid ⟨(Below.refl _ _).alloc (Nat.le_refl _) _, Blk.new w3 _ _, Gr.Row.nil _ _⟩
  go_wp2_with fail
  generalize (w3.alloc (.cells #[.int .i64 0, .int .i64 0, .int .i64 0, .int .i64 0] 92)) = w4 at HI ⊢
  go_wp2_with fail
  go_loopg [7, 8, 9] (ts.length + 256) (fun q v i s wr => ∃ (j : Nat) (feed : List Spt), q = ts.length + 256 - j ∧ j ≤ ts.length + 256 ∧ i = .int .i64 j ∧ MgI w3 wr v feed ∧ AllGood (logsO os) feed ∧ feed.length ≤ j)
  case atStart => exact ⟨0, [], rfl, by omega, rfl, HI.out, good_nil _, Nat.le_refl _⟩
  case round =>
    clear HI
    obtain ⟨j, feed, hq, hj, rfl, hI, hG, hfl⟩ := hrel
    have AA : Aside (gk = ts.length + 256 - j) := hq
    have HI := Lib.hid (And.intro hI hG)
    clear hq hI hG
    have hji : ((ts.length + 256 : Nat) : Int) = (ts.length : Int) + 256 := by omega
    clear hji
    by_cases hlt : j < ts.length + 256
    · have hji : (j : Int) < (ts.length : Int) + 256 := by omega
      have hS : ∃ S : Nat, S < 4 ∧ ((j < ts.length ∧ ∃ b o x, At_ = some ⟨b, o, none⟩ ∧ (∀ w', Below w1.heap.size w1 w' → w'.cell? ⟨b, o + j, none⟩ = some (.int .u8 x)) ∧ 0 ≤ x ∧ x ≤ 255 ∧ Int.tmod x 4 = (S : Int)) ∨ (¬ j < ts.length ∧ Int.tmod (j : Int) 4 = (S : Int))) := by
        by_cases hjt : j < ts.length
        · obtain ⟨b, o, x, ha, hx, hc⟩ := H.out.2.2.1.at_ hjt
          have hr := H.out.2.2.2 x (List.mem_of_getElem? hx.out)
          refine ⟨(x % 4).toNat, by omega, .inl ⟨hjt, b, o, x, ha, hc, hr.1, hr.2, ?_⟩⟩
          rw [Int.tmod_eq_emod_of_nonneg hr.1]
          omega
        · refine ⟨j % 4, by omega, .inr ⟨hjt, ?_⟩⟩
          rw [Int.tmod_eq_emod_of_nonneg (by omega)]
          omega
      obtain ⟨S, hS4, hS⟩ := hS
      have hS4i : (S : Int) < 4 := by omega
      have hB1 := below_trans H3.out.2.2.2 HI.out.1.1 H3.out.2.2.2.size
      have FH : ∀ w', Below wr.heap.size wr w' → w'.cell? ⟨w3.heap.size, S, none⟩ = some (.int .i64 (cntS feed S)) ∧ w'.cell? ⟨w2.heap.size, S, none⟩ = some (.slice (As S) (logsO os S).length (cs S)) := fun w' hb =>
        ⟨(((HI.out.1.2.1.keep hb).cell S).trans (four_at (haveV feed) hS4)), ((below_trans HI.out.1.1 hb HI.out.1.1.size).cell (p := ⟨w2.heap.size, S, none⟩) H3.out.2.2.1).trans (H3.out.2.1 S hS4)⟩
      have hlo := logsO_le os S
      have hc60 : (logsO os S).length ≤ 60 := by omega
      have hj4 : Int.tmod (j : Int) 4 = ((j % 4 : Nat) : Int) := by
        rw [Int.tmod_eq_emod_of_nonneg (by omega)]
        omega
      have hsz := HI.out.1.2.1.lt
      obtain ⟨n, hn⟩ : ∃ z, cntS feed S = z := ⟨_, rfl⟩
      have HN := Lib.hid hn
      rw [hn] at FH
      clear hn hlo
      by_cases hcn : n < (logsO os S).length
      case' pos =>
        have hci : (n : Int) < ((logsO os S).length : Int) := by omega
        have hc64 : (n : Int) < 64 := by omega
        have hrow := Gr.Row.snoc (w := wr.drew) (Gr.Row.keep HI.out.1.2.2 (Below.refl _ _).drew) ((S : Int), (n : Int)) (by omega) (by show w3.heap.size + 1 ≤ wr.heap.size; omega) (H := wr.heap.size) rfl 52
        have HRW := Lib.hid hrow
        clear hrow
      case' neg =>
        have hci : ¬ (n : Int) < ((logsO os S).length : Int) := by omega
      all_goals
        rcases hS with ⟨hjt, b, o, x, rfl, hx, hx0, hx1, hS⟩ | ⟨hjt, hS⟩
        case' inl =>
          have hjti : (j : Int) < (ts.length : Int) := by omega
          have p0 := hx wr hB1
          clear hx hB1 hj4
        case' inr =>
          have hjti : ¬ (j : Int) < (ts.length : Int) := by omega
          clear hB1 hj4
      all_goals
        go_wp2_with fail
        refine wp_region_p ([(0, true), (1, true), (2, true), (3, true), (4, true), (5, true), (6, true), (7, true), (8, true), (9, true), (10, true), (11, true), (12, true), (13, true)]) (fun w' => Below wr.heap.size wr w') (by kernel_rfl) rfl (by kernel_rfl) (by kernel_rfl) ((Below.refl _ _).drew) rfl ?_
        intro KP RP TP hKP hTP hTP'
        simp only [pick, nth]
        go_wp2_with (first
          | (apply SeqP.skip; rfl; simp only [Act.put, List.setIfInBounds_toArray, List.set_cons_zero, List.set_cons_succ])
          | (apply SeqP.call; rfl; rfl; (intro w2 hw; have hw := hTP _ hw; ((obtain ⟨z0, z1⟩ := FH _ hw)); go_simp; exact ⟨rfl, rfl⟩); (intro w2 hw; have hw := hTP _ hw; ((obtain ⟨z0, z1⟩ := FH _ hw)); (first | fail)); simp only [Act.put, List.setIfInBounds_toArray, List.set_cons_zero, List.set_cons_succ])
          | (apply SeqP.pure; rfl; (intro w2 hw; have hw := hTP _ hw; ((obtain ⟨z0, z1⟩ := FH _ hw)); go_simp; with_reducible rfl); simp only [Act.put, List.setIfInBounds_toArray, List.set_cons_zero, List.set_cons_succ])
          | (apply SeqP.split; rfl; rfl; all_goals (intro hc; simp only [hc]; try simp only [beq_iff_eq, decide_eq_true_eq, beq_eq_false_iff_ne, decide_eq_false_iff_not, bne_iff_ne, ne_eq, Bool.not_eq_true', Bool.not_eq_false', Int.not_le, Int.not_lt, bne_eq_false_iff_eq, Bool.or_eq_true, Bool.and_eq_true, Bool.or_eq_false_iff] at hc)))
        apply SeqP.nil
        refine hKP _ _ (hTP' _ ((Below.refl _ _).drew)) ?_
        clear hKP hTP hTP'
      all_goals first
        | (obtain ⟨v', w5, hrun, hR5, hg5, _⟩ := HRW.out
           have hrun : (Builtin.append_ #[52, 52] 52 #[u7, .slice (some ⟨wr.heap.size, 0, none⟩) 1 1]).run Try.prog (wr.alloc (.cells #[.int .i64 (S : Int), .int .i64 (n : Int)] 71)).drew = .ok v' w5 := hrun
           have hlt7 := fun g => (HI.out.1.2.2).lt g
           have B5 : Blk w5 w3.heap.size 92 (fourV (haveV feed)) := (HI.out.1.2.1.drew).grown hg5 (fun e => by have := (hlt7 _ e.symm).1; omega)
           have z5 := (B5.cell S).trans (four_at (haveV feed) hS4)
           have f5 := B5.frozen S
           unfold haveV at z5
           rw [HN.out] at z5
           have z0 := (FH _ (Below.refl _ _).drew).1
           have hB5 : Below w3.heap.size w3 w5 := (HI.out.1.1.drew).trans (mg_below hg5 (fun g hg => (hlt7 g hg).1) (by show w3.heap.size ≤ wr.heap.size; omega))
           have HF := Lib.hid (show MgI w3 (w5.setCell ⟨w3.heap.size, S, none⟩ (.int .i64 ((n : Int) + 1))) v' (feed ++ [((S : Int), (n : Int))]) ∧ AllGood (logsO os) (feed ++ [((S : Int), (n : Int))]) from by
             have e1 := have_next feed hS4
             rw [HN.out] at e1
             refine ⟨⟨hB5.setCell (Nat.le_refl _) _, (B5.set S _).of_eq e1, Gr.Row.far hR5 (only_setCell (World.grownBy.refl w5 _) (.inl rfl) _) (Nat.lt_succ_self _)⟩, ?_⟩
             have := good_snoc HI.out.2 hS4 (by rw [HN.out]; exact hcn)
             rw [HN.out] at this
             exact this)
           clear hR5 hg5 hlt7 B5 hB5 FH HRW
           go_wp2_with (at_builtin; refine wpList_app rfl (by rfl) (by rfl) (by rfl) hrun ?_)
           go_roundg (ts.length + 256 - (j + 1))
           case measure => have hkk := AA.out; omega
           case rel => exact ⟨j + 1, _, rfl, by omega, by go_num, HF.out.1, HF.out.2, by simp; omega⟩)
        | (clear FH
           go_wp2_with fail
           go_roundg (ts.length + 256 - (j + 1))
           case measure => have hkk := AA.out; omega
           case rel => exact ⟨j + 1, feed, rfl, by omega, by go_num, HI.out.1.keep (Below.refl _ _).drew, HI.out.2, by omega⟩)
    · obtain rfl : j = ts.length + 256 := by omega
      have hji : ¬ (((ts.length + 256 : Nat) : Int)) < (ts.length : Int) + 256 := by omega
      have HR := Lib.hid (And.intro (Gr.Row.base HI.out.1.2.2 (show w.heap.size ≤ w3.heap.size + 1 by have := H3.out.1.size; omega)) (below_trans H3.out.1 HI.out.1.1 H3.out.1.size))
      go_wp2_with fail
      go_ret
      exact ⟨_, rfl, feed, HR.out.1, HI.out.2, by omega, HR.out.2⟩
end Go.Proofs.Ytifeokabecgimaa

namespace Go.Proofs.Ytifeokabecgimaa
open Go Go.Arch

theorem may_apply22 {s : St} {e : Ev} (h : mayS s = true) : mayS (applyS s e) = true := by
  unfold applyS
  split
  · rename_i hc
    obtain ⟨_, hc⟩ := hc
    obtain ⟨t, c, s, v⟩ := s
    obtain ⟨k, a⟩ := e
    unfold comesS at hc
    rw [decide_eq_true_eq] at hc
    dsimp only at hc ⊢
    obtain ⟨hv, rfl, hc⟩ := hc
    obtain ⟨q1, q2, q3, q4⟩ := mayS_bounds h
    unfold mayS at h ⊢
    rw [decide_eq_true_eq] at h ⊢
    unfold leastS at *
    dsimp only at h ⊢
    rcases hc with ⟨rfl, rfl, h1, h2⟩ | ⟨rfl, h0, h1, h2⟩ | ⟨rfl, h0, h1, h2⟩ | ⟨rfl, h0, rfl, h2⟩
    · refine .inr ⟨by simp; omega, by simp; omega, ?_, by simp; omega, by omega, by omega, by simp⟩
      simp; split <;> omega
    · refine .inr ⟨by simp; omega, by simp; omega, ?_, by simp; omega, by omega, by omega, by simp⟩
      simp; split <;> (split at h <;> omega)
    · refine .inr ⟨by simp; omega, by simp; omega, ?_, by simp; omega, by omega, by omega, by simp⟩
      simp; split at h2 <;> simp_all <;> omega
    · refine .inr ⟨by simp; omega, by simp; omega, ?_, by simp, by omega, by omega, by simp⟩
      simp; split <;> omega
  · exact h
theorem fold_may (l : List Ent) : ∀ j, j ≤ l.length → mayS (foldTo l j).1 = true
  | 0, _ => by simp [foldTo, mayS]
  | j + 1, h => by
    have ih := fold_may l j (by omega)
    obtain ⟨o, _, hs⟩ := fold_step (l := l) (j := j) (by omega)
    rcases hs with ⟨_, hs⟩ | ⟨k, a, _, hs, _⟩
    · rw [hs]; exact ih
    · rw [hs]; exact may_apply22 ih
/-- A new order's outcome: its version, its code. -/
theorem new_out {l : List Ent} {j : Nat} {e : Ent} (he : l[j]? = some e) (hf : firstIn l j e.2.1 = none) : ∃ o, (foldS l).2[j]? = some o ∧ o.2.1 = (foldTo l j).1.ver + o.2.2.length ∧ (foldTo l (j + 1)).1.ver = o.2.1 ∧ (o.1 = 1 ↔ 0 < o.2.2.length) := by
  have hj := (List.getElem?_eq_some_iff.1 he).1
  have hn := fold_new he hf
  have h1 := fold_begins l (j + 1) l.length (by omega) (Nat.le_refl _)
  have hm := fold_may l j (by omega)
  have hlen := fold_len l j (by omega)
  refine ⟨(decS (foldTo l j).1 (ordOf e)).2, ?_, ?_⟩
  · have h2 : ((foldS l).2.take (j + 1))[j]? = some (decS (foldTo l j).1 (ordOf e)).2 := by
      unfold foldS
      rw [h1, hn, List.getElem?_append_right (by rw [hlen]; exact Nat.le_refl _), hlen, Nat.sub_self]
      rfl
    rw [List.getElem?_take, if_pos (by omega)] at h2
    exact h2
  · rw [hn]
    by_cases hc : codeS (foldTo l j).1 (ordOf e) = 1
    · have hs := decS_step (foldTo l j).1 (ordOf e)
      rw [decS_yes hc] at hs ⊢
      rcases hs with ⟨h, _⟩ | ⟨k, a, h1, h2, h3, _⟩
      · cases h
      · exact ⟨by simp, by dsimp only at h3 ⊢; exact h3, by simp⟩
    · rw [decS_no hc]
      unfold verS
      rw [if_pos hm, if_neg hc]
      exact ⟨by simp, rfl, by simp [hc]⟩
theorem dup_out {l : List Ent} {j k : Nat} {e : Ent} (he : l[j]? = some e) (hf : firstIn l j e.2.1 = some k) : ∃ o, (foldS l).2[j]? = some o ∧ o.2.2 = [] ∧ (foldTo l (j + 1)).1 = (foldTo l j).1 := by
  have hj := (List.getElem?_eq_some_iff.1 he).1
  have hn := fold_dup he hf
  have h1 := fold_begins l (j + 1) l.length (by omega) (Nat.le_refl _)
  have hlen := fold_len l j (by omega)
  refine ⟨dupOf (foldTo l j).2 k, ?_, ?_, by rw [hn]⟩
  · have h2 : ((foldS l).2.take (j + 1))[j]? = some (dupOf (foldTo l j).2 k) := by
      unfold foldS
      rw [h1, hn, List.getElem?_append_right (by rw [hlen]; exact Nat.le_refl _), hlen, Nat.sub_self]
      rfl
    rw [List.getElem?_take, if_pos (by omega)] at h2
    exact h2
  · unfold dupOf
    split <;> rfl
end Go.Proofs.Ytifeokabecgimaa

namespace Go.Proofs.Ytifeokabecgimaa
open Go Go.Arch

theorem to_inv {M : Logs4} {feed : List Spt} {n : Nat} {r' : List IA} (h : itemsTo M feed (n + 1) = some r') : ∃ r p, itemsTo M feed n = some r ∧ feed[n]? = some p ∧ goodS M feed n p ∧ r' = r ++ [itemA M p] := by
  conv at h => lhs; unfold itemsTo
  cases hj : itemsTo M feed n with
  | none => rw [hj] at h; cases h
  | some r =>
    cases hp : feed[n]? with
    | none => rw [hj, hp] at h; cases h
    | some p =>
      rw [hj, hp] at h
      dsimp only at h
      split at h
      · rename_i hg
        cases h
        exact ⟨r, p, rfl, rfl, hg, rfl⟩
      · cases h
theorem to_cut {M : Logs4} {feed : List Spt} {k : Nat} : ∀ j, j ≤ k → itemsTo M (feed.take k) j = itemsTo M feed j
  | 0, _ => rfl
  | j + 1, h => by
    have ih := to_cut (M := M) (feed := feed) (k := k) j (by omega)
    have hg : ∀ p, goodS M (feed.take k) j p ↔ goodS M feed j p := fun p => by
      unfold goodS
      rw [List.take_take, Nat.min_eq_left (by omega)]
    conv => lhs; unfold itemsTo
    conv => rhs; unfold itemsTo
    rw [ih, List.getElem?_take, if_pos (by omega)]
    cases itemsTo M feed j with
    | none => rfl
    | some r =>
      cases feed[j]? with
      | none => rfl
      | some p =>
        dsimp only
        by_cases h1 : goodS M feed j p
        · rw [if_pos h1, if_pos ((hg p).2 h1)]
        · rw [if_neg h1, if_neg (fun h => h1 ((hg p).1 h))]
theorem to_take {M : Logs4} {feed : List Spt} {k : Nat} : ∀ {n : Nat} {r : List IA}, k ≤ n → itemsTo M feed n = some r → itemsTo M feed k = some (r.take k)
  | 0, r, hk, h => by
    obtain rfl : k = 0 := by omega
    cases h
    rfl
  | n + 1, r', hk, h => by
    by_cases he : k = n + 1
    · subst he
      rw [h, List.take_of_length_le (by rw [(to_len h).1]; exact Nat.le_refl _)]
    · obtain ⟨r, p, h1, _, _, rfl⟩ := to_inv h
      rw [to_take (by omega) h1, List.take_append_of_le_length (by rw [(to_len h1).1]; omega)]
theorem of_range {M : Logs4} {feed : List Spt} (S : Nat) : ∀ {n : Nat} {r : List IA}, itemsTo M feed n = some r → itemsOf (S : Int) r = (List.range (cntS (feed.take n) S)).map (fun i : Nat => itemA M ((S : Int), (i : Int))) ∧ cntS (feed.take n) S ≤ (M S).length
  | 0, r, h => by
    cases h
    exact ⟨rfl, Nat.zero_le _⟩
  | n + 1, r', h => by
    obtain ⟨r, p, h1, h2, h3, rfl⟩ := to_inv h
    have ih := of_range S h1
    have e : itemsOf (S : Int) (r ++ [itemA M p]) = itemsOf (S : Int) r ++ itemsOf (S : Int) [itemA M p] := by unfold itemsOf; rw [List.filter_append]
    rw [e, cnt_succ h2]
    by_cases hp : p.1 = (S : Int)
    · have e2 : itemsOf (S : Int) [itemA M p] = [itemA M p] := by
        unfold itemsOf
        simp [itemA, hp]
      have e3 : p = ((S : Int), (cntS (feed.take n) S : Int)) := by
        have h4 := h3.2.2.1
        rw [hp] at h4
        exact Prod.ext hp h4
      have h5 := h3.2.2.2
      rw [if_pos hp, List.range_succ, List.map_append, ih.1, e2]
      refine ⟨by rw [e3]; simp, ?_⟩
      rw [e3] at h5
      have : (cntS (feed.take n) S : Int) < ((M S).length : Int) := h5
      omega
    · have e2 : itemsOf (S : Int) [itemA M p] = [] := by
        unfold itemsOf
        simp [itemA, hp]
      rw [if_neg hp, e2, List.append_nil, Nat.add_zero]
      exact ih
/-- A stream's item, one of them. -/
theorem of_at {M : Logs4} {feed : List Spt} {S n i : Nat} {r : List IA} (h : itemsTo M feed n = some r) {x : IA} (hx : (itemsOf (S : Int) r)[i]? = some x) : ∃ e, (M S)[i]? = some e ∧ x.1 = ((S : Int), (i : Int)) ∧ x.2.1 = ordOf e ∧ (foldS (M S)).2[i]? = some x.2.2 := by
  obtain ⟨h1, h2⟩ := of_range S h
  rw [h1] at hx
  have hi : i < cntS (feed.take n) S := by
    have := (List.getElem?_eq_some_iff.1 hx).1
    simpa using this
  rw [List.getElem?_map, List.getElem?_range hi] at hx
  obtain rfl := Option.some.inj hx
  have hl : (foldS (M S)).2.length = (M S).length := fold_len (M S) _ (Nat.le_refl _)
  refine ⟨_, List.getElem?_eq_getElem (by omega), rfl, ?_, ?_⟩
  · show ordOf ((M (S : Int).toNat).getD (i : Int).toNat _) = _
    rw [show (S : Int).toNat = S from rfl, show (i : Int).toNat = i from rfl, List.getD, List.getElem?_eq_getElem (by omega)]
    rfl
  · show (foldS (M S)).2[i]? = some ((foldS (M (S : Int).toNat)).2.getD (i : Int).toNat noOut)
    rw [show (S : Int).toNat = S from rfl, show (i : Int).toNat = i from rfl, List.getD, List.getElem?_eq_getElem (by omega)]
    rfl
end Go.Proofs.Ytifeokabecgimaa

namespace Go.Proofs.Ytifeokabecgimaa
open Go Go.RowKit Go.Sq Go.Wd Go.Arch

theorem fits_logs {os : List Ord} (h : os.length ≤ 60) : fits4 (logsO os) := by
  have h0 := logsO_le os 0
  have h1 := logsO_le os 1
  have h2 := logsO_le os 2
  have h3 := logsO_le os 3
  exact ⟨by omega, by omega, by omega, by omega⟩
theorem good_items {os : List Ord} (h : os.length ≤ 60) {feed : List Spt} (hg : AllGood (logsO os) feed) : ∃ l, itemsS (logsO os) feed = some l ∧ l.length = feed.length := by
  obtain ⟨l, h1, h2⟩ := good_to hg feed.length (Nat.le_refl _)
  exact ⟨l, by unfold itemsS; rw [if_pos (fits_logs h)]; exact h1, h2⟩
theorem sameitems_n {l : List IA} {n : Nat} (hn : l.length = n) (A B : Option Addr) (c d : Nat) (w : World) (ha : ItsR w A l) (hb : ItsR w B l) (hl : n ≤ 9223372036854775807) :
    Calls Try.prog 29 #[.slice A n c, .slice B n d] w fun e w' => e = .returned (.bool true) ∧ Below w.heap.size w w' := by
  subst hn
  exact sameitems_any l A B c d w ha hb hl

theorem evl_len {w : World} {own : Option Nat} {sl : Sl} {evs : List (Int × Int)} (h : EvC w own sl evs) : sl.2.1 = evs.length := h.len
theorem neq_spt2 (w : World) (a b : Int) : (binOp .neq 71 (.agg #[.int .i64 a, .int .i64 b]) (.agg #[.int .i64 a, .int .i64 b])).run Try.prog w = .ok (.bool false) w := by
  have g0 := Try.underlying71
  simp [go_sem]
def agS (L : List Ent) (j : Nat) (a : Int) : Bool := (firstIn L j a).isSome
theorem ag_next {L : List Ent} {j : Nat} {e : Ent} (he : L[j]? = some e) (a : Int) : agS L (j + 1) a = (agS L j a || decide (e.2.1 = a)) := by
  unfold agS
  rw [first_succ he]
  by_cases hn : firstIn L j a = none
  · rw [hn]
    by_cases h : a = e.2.1
    · subst h
      simp
    · have h2 : ¬ e.2.1 = a := fun e => h e.symm
      simp [h, h2]
  · obtain ⟨k, hk⟩ := Option.ne_none_iff_exists'.1 hn
    rw [hk]
    simp

set_option maxHeartbeats 16000000 in
theorem feedsGrow_walk (os : List Ord) (Ao : Option Addr) (co : Nat) (ts : List Int) (At_ : Option Addr) (ct : Nat) (mn : Nat) (hmn : mn ≤ 255) (w : World) (ho : Gr.Sl ordE w w.heap.size Ao os) (hol : os.length ≤ 9223372036854775807) (hwf : ∀ o ∈ os, (Lit.int .i64 o.id).wf = true)
    (ht : Nums w w.heap.size At_ .u8 ts) (htw : ∀ x ∈ ts, 0 ≤ x ∧ x ≤ 255) (htl : ts.length ≤ 9223372036854775807) :
    Calls Try.prog 12 #[.agg #[.slice Ao os.length co], .slice At_ ts.length ct, .int .u8 mn] w fun e w' => e = .returned (.bool true) ∧ Below w.heap.size w w' := by
  have hz : Below w.heap.size w (w.alloc (.cells #[.slice Ao os.length co] 55)) := (Below.refl _ _).alloc (Nat.le_refl _) _
  have BL := Blk.new w 55 [.slice Ao os.length co]
  have H1 := Lib.hid (And.intro hz (And.intro BL (And.intro (ho.keep hz) (And.intro hwf (And.intro (show Nums _ (w.alloc (.cells #[.slice Ao os.length co] 55)).heap.size _ _ _ from (ht.below hz).more hz.size) htw)))))
  clear hz BL ho hwf ht htw
  go_enter Try.func12, Try.ntmps12
  by_cases hout : 60 < os.length ∨ 200 < ts.length
  case pos =>
    have hcc : (60 : Int) < (os.length : Int) ∨ (¬ (60 : Int) < (os.length : Int) ∧ (200 : Int) < (ts.length : Int)) := by omega
    clear hout
    rcases hcc with h1 | ⟨h1, h2⟩
    all_goals
      go_wp2_with fail
      refine (lives_any _).mono ?_
      rintro r w1 ⟨rfl, hb⟩
      have hB := below_trans H1.out.1 hb H1.out.1.size
      go_wp2_with fail
      go_ret
      exact ⟨rfl, hB⟩
  have g1 : ¬ (60 : Int) < (os.length : Int) := by omega
  have g2 : ¬ (200 : Int) < (ts.length : Int) := by omega
  have ho60 : os.length ≤ 60 := by omega
  have ht200 : ts.length ≤ 200 := by omega
  clear hout
  go_wp2_with fail
  generalize (w.alloc (.cells #[.slice Ao os.length co] 55)) = w1 at H1 ⊢
  have x0 := H1.out.2.1.cell 0
  simp only [List.getElem?_cons_zero] at x0
  have FB : ∀ w', Below w1.heap.size w1 w' → w'.cell? ⟨w.heap.size, 0, none⟩ = some (.slice Ao os.length co) := fun w' hw => (hw.cell (p := ⟨w.heap.size, 0, none⟩) H1.out.2.1.lt).trans x0
  go_wp2_with fail
  refine (merged_any os Ao co ts At_ ct w1 H1.out.2.2.1 ho60 H1.out.2.2.2.2.1 H1.out.2.2.2.2.2 ht200).mono ?_
  rintro e w2 ⟨v, feed, rfl, hR, hG, hfl, hB2⟩
  obtain ⟨A2, c2, rfl, k2, k2', hF2⟩ := Gr.Row.form hR
  obtain ⟨l, hl, hll⟩ := good_items ho60 hG
  obtain ⟨k, hk⟩ : ∃ k : Nat, (mn : Int).tmod ((feed.length : Int) + 1) = (k : Int) := ⟨(mn % (feed.length + 1)), by rw [Int.tmod_eq_emod_of_nonneg (by omega)]; simp⟩
  have hkl : k ≤ feed.length := by
    have h := Int.emod_lt_of_pos (mn : Int) (show (0 : Int) < (feed.length : Int) + 1 by omega)
    rw [Int.tmod_eq_emod_of_nonneg (by omega)] at hk
    omega
  have hto : itemsTo (logsO os) feed feed.length = some l := by
    unfold itemsS at hl
    rw [if_pos (fits_logs ho60)] at hl
    exact hl
  have hlk : itemsS (logsO os) (feed.take k) = some (l.take k) := by
    unfold itemsS
    rw [if_pos (fits_logs ho60), List.length_take, Nat.min_eq_left hkl, to_cut k (Nat.le_refl _)]
    exact to_take hkl hto
  have hl500 : l.length ≤ 500 := by omega
  have htk : (l.take k).length = k := by rw [List.length_take]; omega
  have hfk : (feed.take k).length = k := by rw [List.length_take]; omega
  have hlf : ((l.length : Int) != (feed.length : Int)) = false := by simp [hll]
  have hkll : k ≤ l.length := by omega
  have HL := Lib.hid (And.intro hl (And.intro hlk (And.intro hto (And.intro htk hfk))))
  have z2 := FB _ hB2
  have HF2 := Lib.hid (And.intro hF2 hB2)
  clear hl hlk hto htk hfk hll hG hR hF2 x0 hB2
  go_wp2_with fail
  have hkc : (k : Int) ≤ (c2 : Int) := by omega
  refine wp_region_p ([(0, true), (1, true), (2, true), (3, true), (4, false), (5, false), (6, true), (7, true), (8, true), (9, true), (10, true)]) (fun w' => Below w1.heap.size w1 w') (by kernel_rfl) rfl (by kernel_rfl) (by kernel_rfl) (HF2.out.2.drew) rfl ?_
  intro KP RP TP hKP hTP hTP'
  simp only [pick, nth]
  go_wp2_with (first
    | (apply SeqP.skip; rfl; simp only [Act.put, List.setIfInBounds_toArray, List.set_cons_zero, List.set_cons_succ])
    | (apply SeqP.call; rfl; rfl; (intro w2 hw; have hw := hTP _ hw; ((have z0 := FB _ hw)); go_simp; exact ⟨rfl, rfl⟩); (intro w2 hw; have hw := hTP _ hw; ((have z0 := FB _ hw)); (first | fail)); simp only [Act.put, List.setIfInBounds_toArray, List.set_cons_zero, List.set_cons_succ])
    | (apply SeqP.pure; rfl; (intro w2 hw; have hw := hTP _ hw; ((have z0 := FB _ hw)); go_simp; with_reducible rfl); simp only [Act.put, List.setIfInBounds_toArray, List.set_cons_zero, List.set_cons_succ])
    | (apply SeqP.split; rfl; rfl; all_goals (intro hc; simp only [hc]; try simp only [beq_iff_eq, decide_eq_true_eq, beq_eq_false_iff_ne, decide_eq_false_iff_not, bne_iff_ne, ne_eq, Bool.not_eq_true', Bool.not_eq_false', Int.not_le, Int.not_lt, bne_eq_false_iff_eq, Bool.or_eq_true, Bool.and_eq_true, Bool.or_eq_false_iff] at hc)))
  apply SeqP.eff
  · rfl
  intro KE hKE
  go_wp2_with fail
  refine (logsOf_any os Ao co w2.drew (H1.out.2.2.1.keep HF2.out.2.drew) (by omega)).mono ?_
  rintro e w3 ⟨As, cs, rfl, hL3, hb3⟩
  have hb23 : Below w2.heap.size w2 w3 := (Below.refl _ _).drew.trans hb3
  have hB3 := below_trans HF2.out.2 hb23 HF2.out.2.size
  refine hKE _ _ (hTP' _ hB3) ?_
  clear hKE KE
  apply SeqP.eff
  · rfl
  intro KE hKE
  go_wp2_with fail
  have hi5 := items_val HL.out.2.1 (n := k) HL.out.2.2.2.1 As cs A2 c2 w3 hL3 (fun i _ => logsO_wf H1.out.2.2.2.1 i) ((HF2.out.1.keep hb23).take k) (by rw [HL.out.2.2.2.2]; omega)
  rw [HL.out.2.2.2.2] at hi5
  refine hi5.mono ?_
  rintro e w4 ⟨A4, c4, rfl, hI4, k4, k4', hA4, hb4⟩
  have hB4 := below_trans hB3 hb4 hB3.size
  refine hKE _ _ (hTP' _ hB4) ?_
  clear hKE KE
  go_wp2_with (first
    | (apply SeqP.skip; rfl; simp only [Act.put, List.setIfInBounds_toArray, List.set_cons_zero, List.set_cons_succ])
    | (apply SeqP.call; rfl; rfl; (intro w2 hw; have hw := hTP _ hw; (skip); go_simp; exact ⟨rfl, rfl⟩); (intro w2 hw; have hw := hTP _ hw; (skip); (first | fail)); simp only [Act.put, List.setIfInBounds_toArray, List.set_cons_zero, List.set_cons_succ])
    | (apply SeqP.pure; rfl; (intro w2 hw; have hw := hTP _ hw; (skip); go_simp; with_reducible rfl); simp only [Act.put, List.setIfInBounds_toArray, List.set_cons_zero, List.set_cons_succ])
    | (apply SeqP.split; rfl; rfl; all_goals (intro hc; simp only [hc]; try simp only [beq_iff_eq, decide_eq_true_eq, beq_eq_false_iff_ne, decide_eq_false_iff_not, bne_iff_ne, ne_eq, Bool.not_eq_true', Bool.not_eq_false', Int.not_le, Int.not_lt, bne_eq_false_iff_eq, Bool.or_eq_true, Bool.and_eq_true, Bool.or_eq_false_iff] at hc)))
  apply SeqP.nil
  refine hKP _ _ (hTP' _ (hB4)) ?_
  clear hKP hTP hTP'
  have HI := Lib.hid (And.intro hI4 (And.intro hB4 (HF2.out.1.keep (below_trans hb23 hb4 hb23.size))))
  have z4 := FB _ hB4
  clear hi5 hI4 hB4 hB3 hb3 hb23 hb4 hL3 HF2 hA4
  go_wp2_with fail
  refine (logsOf_any os Ao co w4 (H1.out.2.2.1.keep HI.out.2.1) (by omega)).mono ?_
  rintro e w5 ⟨As', cs', rfl, hL5, hb5⟩
  have H5 := Lib.hid (And.intro hL5 (And.intro hb5 (HI.out.2.2.keep hb5)))
  clear hL5 hb5 z4 z2
  go_wp2_with fail
  refine (items_val HL.out.1 (n := l.length) rfl As' cs' A2 c2 w5 H5.out.1 (fun i _ => logsO_wf H1.out.2.2.2.1 i) H5.out.2.2 (by omega)).mono ?_
  rintro e w6 ⟨A6, c6, rfl, hI6, k6, k6', hA6, hb6⟩
  have hb46 := below_trans H5.out.2.1 hb6 H5.out.2.1.size
  have H6 := Lib.hid (And.intro (HI.out.1.keep hb46) (And.intro hI6 (And.intro (below_trans H1.out.1 (below_trans HI.out.2.1 hb46 HI.out.2.1.size) H1.out.1.size) hA6)))
  clear hI6 hb6 hb46 hA6 H5 HI FB
  go_wp2_with fail
  refine (sameitems_n (l := l.take k) (n := k) HL.out.2.2.2.1 _ _ _ _ w6 H6.out.1 (H6.out.2.1.take k) (by omega)).mono ?_
  rintro e w7 ⟨rfl, hb7⟩
  have H7 := Lib.hid (And.intro (H6.out.2.1.keep hb7) (And.intro (below_trans H6.out.2.2.1 hb7 H6.out.2.2.1.size) H6.out.2.2.2))
  clear hb7 H6 hkc
  go_wp2_with fail
  go_loopg [13] 4 (fun q s wr => ∃ S : Nat, q = 4 - S ∧ S ≤ 4 ∧ s = .int .i64 S ∧ Below w7.heap.size w7 wr)
  case atStart => exact ⟨0, rfl, by omega, rfl, Below.refl _ _⟩
  case round =>
    obtain ⟨S, hq, hS4, rfl, hB⟩ := hrel
    have AA : Aside (gk = 4 - S) := hq
    clear hq
    obtain ⟨w8, rfl⟩ : ∃ z, z = wr := ⟨_, rfl⟩
    by_cases hS : S < 4
    · have hSi : (S : Int) < 4 := by omega
      go_wp2_with fail
      refine (of_items l A6 c6 S w8 (H7.out.1.keep hB) (by omega) H7.out.2.2).mono ?_
      rintro e w9 ⟨A9, c9, rfl, hI9, hb9⟩
      have hB9 := below_trans hB hb9 hB.size
      obtain ⟨L, hLL⟩ : ∃ z, itemsOf (S : Int) l = z := ⟨_, rfl⟩
      rw [hLL] at hI9 ⊢
      have hL64 : L.length ≤ 60 := by
        have h1 := (of_range S HL.out.2.2.1)
        rw [hLL] at h1
        have h2 := logsO_le os S
        rw [h1.1, List.length_map, List.length_range]
        omega
      have H9 := Lib.hid (And.intro hI9 (And.intro hB9 hLL))
      clear hI9 hB9 hb9 hLL hB
      go_wp2_with fail
      go_loopg [15, 16] L.length (fun q v i wr => ∃ j : Nat, q = L.length - j ∧ j ≤ L.length ∧ v = .int .i64 (foldTo (logsO os S) j).1.ver ∧ i = .int .i64 j ∧ Below w9.heap.size w9 wr)
      case atStart => exact ⟨0, rfl, by omega, rfl, rfl, Below.refl _ _⟩
      case round =>
        obtain ⟨i, hq, hil, rfl, rfl, hB⟩ := hrel
        have BB : Aside (gk = L.length - i) := hq
        clear hq
        obtain ⟨w10, rfl⟩ : ∃ z, z = wr := ⟨_, rfl⟩
        by_cases hi : i < L.length
        · obtain ⟨b, off, x, sl, rfl, hx, hbl, hE, FA⟩ := H9.out.1.at_ hi
          obtain ⟨e, he, hx1, hx2, hx3⟩ := of_at HL.out.2.2.1 (S := S) (i := i) (x := x) (by rw [H9.out.2.2]; exact hx.out)
          obtain ⟨p0, p1, p2, p3, p4, p5, p6, p7, p8, p9⟩ := it_cells (FA _ hB)
          have hE2 := hE.pure hB
          have hsl := hE2.len
          have hal : Below w10.heap.size w10 (w10.alloc (.cells #[.int .i64 x.2.2.1, .int .i64 x.2.2.2.1, .slice sl.1 sl.2.1 sl.2.2] 33)) := (Below.refl _ _).alloc (Nat.le_refl _) _
          have BO := Blk.new w10 33 [.int .i64 x.2.2.1, .int .i64 x.2.2.2.1, .slice sl.1 sl.2.1 sl.2.2]
          have hver := fold_ver (logsO os S) i (by have := (List.getElem?_eq_some_iff.1 he).1; omega)
          have HX := Lib.hid (And.intro he (And.intro hx1 (And.intro hx2 (And.intro hx3 (And.intro hx.out hsl)))))
          have HB10 := Lib.hid (And.intro hB (below_trans hB hal hB.size))
          clear he hx1 hx2 hx3 hE hE2 hsl hal hB
          go_wp2_with fail
          generalize (w10.alloc (.cells #[.int .i64 x.2.2.1, .int .i64 x.2.2.2.1, .slice sl.1 sl.2.1 sl.2.2] 33)) = w11 at BO HB10 ⊢
          clear p0 p1 p2 p3 p4 p5 p6 p7 p8 p9
          go_loopg [18, 19] i (fun q a j wr => ∃ J : Nat, q = i - J ∧ J ≤ i ∧ a = .bool (agS (logsO os S) J x.2.1.id) ∧ j = .int .i64 J ∧ Below w11.heap.size w11 wr)
          case atStart => exact ⟨0, rfl, by omega, rfl, rfl, Below.refl _ _⟩
          case round =>
            obtain ⟨J, hq, hJi, rfl, rfl, hB⟩ := hrel
            have CC : Aside (gk = i - J) := hq
            clear hq
            obtain ⟨w12, rfl⟩ : ∃ z, z = wr := ⟨_, rfl⟩
            have hB12 := below_trans HB10.out.2 hB HB10.out.2.size
            by_cases hJ : J < i
            · obtain ⟨b', off', y, sly, hA, hy, _, _, FY⟩ := H9.out.1.at_ (k := J) (by omega)
              cases hA
              obtain ⟨ey, hey, _, hy2, _⟩ := of_at HL.out.2.2.1 (S := S) (i := J) (x := y) (by rw [H9.out.2.2]; exact hy.out)
              have hag := ag_next hey x.2.1.id
              have hyid : y.2.1.id = ey.2.1 := by rw [hy2]; rfl
              have HJ := Lib.hid (And.intro hag hyid)
              have hdr := (Below.refl w12.heap.size w12).drew
              have FX : ∀ w', Below w12.heap.size w12 w' → w'.cell? ⟨b, off + i * 10 + 2, none⟩ = some (.int .i64 x.2.1.id) ∧ w'.cell? ⟨b, off + J * 10 + 2, none⟩ = some (.int .i64 y.2.1.id) := fun w' hw =>
                ⟨(it_cells (FA w' (below_trans hB12 hw hB12.size))).2.2.1, (it_cells (FY w' (below_trans hB12 hw hB12.size))).2.2.1⟩
              have hJL : (J : Int) < (L.length : Int) := by omega
              have hiL : (i : Int) < (L.length : Int) := by omega
              clear hey hy2 hag hyid FY
              cases hag : agS (logsO os S) J x.2.1.id
              case true =>
                have HG := Lib.hid (show agS (logsO os S) (J + 1) x.2.1.id = true by rw [HJ.out.1, hag]; rfl)
                clear hag
                go_wp2_with fail
                refine wp_region_p ([(0, true), (1, true), (2, true), (3, true), (4, true), (5, true), (6, true), (7, true), (8, true), (9, true), (10, true), (11, true), (12, true), (13, true), (14, true), (15, true), (16, true)]) (fun w' => Below w12.heap.size w12 w') (by kernel_rfl) rfl (by kernel_rfl) (by kernel_rfl) ((Below.refl _ _).drew) rfl ?_
                intro KP RP TP hKP hTP hTP'
                simp only [pick, nth]
                go_wp2_with (first
                  | (apply SeqP.skip; rfl; simp only [Act.put, List.setIfInBounds_toArray, List.set_cons_zero, List.set_cons_succ])
                  | (apply SeqP.call; rfl; rfl; (intro w2 hw; have hw := hTP _ hw; (skip); go_simp; exact ⟨rfl, rfl⟩); (intro w2 hw; have hw := hTP _ hw; (skip); (first | fail)); simp only [Act.put, List.setIfInBounds_toArray, List.set_cons_zero, List.set_cons_succ])
                  | (apply SeqP.pure; rfl; (intro w2 hw; have hw := hTP _ hw; (skip); go_simp; with_reducible rfl); simp only [Act.put, List.setIfInBounds_toArray, List.set_cons_zero, List.set_cons_succ])
                  | (apply SeqP.split; rfl; rfl; all_goals (intro hc; simp only [hc]; try simp only [beq_iff_eq, decide_eq_true_eq, beq_eq_false_iff_ne, decide_eq_false_iff_not, bne_iff_ne, ne_eq, Bool.not_eq_true', Bool.not_eq_false', Int.not_le, Int.not_lt, bne_eq_false_iff_eq, Bool.or_eq_true, Bool.and_eq_true, Bool.or_eq_false_iff] at hc)))
                apply SeqP.nil
                refine hKP _ _ (hTP' _ ((Below.refl _ _).drew)) ?_
                clear hKP hTP hTP'
                go_wp2_with fail
                go_roundg (i - (J + 1))
                case measure => have hkk := CC.out; omega
                case rel => exact ⟨J + 1, rfl, by omega, by rw [HG.out], by go_num, hB.drew⟩
              case false =>
                by_cases hyx : y.2.1.id = x.2.1.id
                case' pos =>
                  have hyb : (y.2.1.id == x.2.1.id) = true := by simpa using hyx
                  have HG := Lib.hid (show agS (logsO os S) (J + 1) x.2.1.id = true by rw [HJ.out.1, hag, ← HJ.out.2]; simp [hyx])
                case' neg =>
                  have hyb : (y.2.1.id == x.2.1.id) = false := by simpa using hyx
                  have HG := Lib.hid (show agS (logsO os S) (J + 1) x.2.1.id = false by rw [HJ.out.1, hag, ← HJ.out.2]; simp [hyx])
                all_goals
                  clear hag hyx
                  go_wp2_with fail
                  refine wp_region_p ([(0, true), (1, true), (2, true), (3, true), (4, true), (5, true), (6, true), (7, true), (8, true), (9, true), (10, true), (11, true), (12, true), (13, true), (14, true), (15, true), (16, true)]) (fun w' => Below w12.heap.size w12 w') (by kernel_rfl) rfl (by kernel_rfl) (by kernel_rfl) ((Below.refl _ _).drew) rfl ?_
                  intro KP RP TP hKP hTP hTP'
                  simp only [pick, nth]
                  go_wp2_with (first
                    | (apply SeqP.skip; rfl; simp only [Act.put, List.setIfInBounds_toArray, List.set_cons_zero, List.set_cons_succ])
                    | (apply SeqP.call; rfl; rfl; (intro w2 hw; have hw := hTP _ hw; ((obtain ⟨u0, u1⟩ := FX _ hw)); go_simp; exact ⟨rfl, rfl⟩); (intro w2 hw; have hw := hTP _ hw; ((obtain ⟨u0, u1⟩ := FX _ hw)); (first | fail)); simp only [Act.put, List.setIfInBounds_toArray, List.set_cons_zero, List.set_cons_succ])
                    | (apply SeqP.pure; rfl; (intro w2 hw; have hw := hTP _ hw; ((obtain ⟨u0, u1⟩ := FX _ hw)); go_simp; with_reducible rfl); simp only [Act.put, List.setIfInBounds_toArray, List.set_cons_zero, List.set_cons_succ])
                    | (apply SeqP.split; rfl; rfl; all_goals (intro hc; simp only [hc]; try simp only [beq_iff_eq, decide_eq_true_eq, beq_eq_false_iff_ne, decide_eq_false_iff_not, bne_iff_ne, ne_eq, Bool.not_eq_true', Bool.not_eq_false', Int.not_le, Int.not_lt, bne_eq_false_iff_eq, Bool.or_eq_true, Bool.and_eq_true, Bool.or_eq_false_iff] at hc)))
                  apply SeqP.nil
                  refine hKP _ _ (hTP' _ ((Below.refl _ _).drew)) ?_
                  clear hKP hTP hTP'
                  go_wp2_with fail
                  go_roundg (i - (J + 1))
                  case measure => have hkk := CC.out; omega
                  case rel => exact ⟨J + 1, rfl, by omega, by rw [HG.out], by go_num, hB.drew⟩
            · obtain rfl : J = i := by omega
              clear hJ hJi
              have BO12 := BO.keep hB
              have y0 := BO12.cell 0
              have y1 := BO12.cell 1
              have y2 := BO12.cell 2
              simp only [List.getElem?_cons_succ, List.getElem?_cons_zero] at y0 y1 y2
              obtain ⟨p0, p1, _⟩ := it_cells (FA _ hB12)
              have hx1 := HX.out.2.1
              have hx1a := congrArg Prod.fst hx1
              have hx1b := congrArg Prod.snd hx1
              dsimp only at hx1a hx1b
              rw [hx1a] at p0
              rw [hx1b] at p1
              have hsl := HX.out.2.2.2.2.2
              rw [hsl] at y2
              have hiL : (J : Int) < (L.length : Int) := by omega
              have hid : x.2.1.id = e.2.1 := by rw [HX.out.2.2.1]; rfl
              clear hx1 hx1a hx1b hsl FA BO
              cases hag : agS (logsO os S) J x.2.1.id
              case true =>
                have hsome : ∃ k, firstIn (logsO os S) J e.2.1 = some k := by
                  unfold agS at hag
                  rw [hid] at hag
                  exact Option.isSome_iff_exists.1 hag
                obtain ⟨k', hk'⟩ := hsome
                obtain ⟨o', ho', he', hst'⟩ := dup_out HX.out.1 hk'
                have hxo : x.2.2 = o' := Option.some.inj (HX.out.2.2.2.1.symm.trans ho')
                have hev : (x.2.2.2.2.length : Int) = 0 := by rw [hxo, he']; rfl
                have HV := Lib.hid hst'
                have hev0 : x.2.2.2.2.length = 0 := by omega
                rw [hev0] at y2
                clear hag hid hk' ho' he' hst' hxo hev hev0
                go_wp2_with ((with_reducible refine at_list ?_); first | (refine wpList_agg_g rfl rfl Try.eqGuardType71 rfl rfl (neq_spt2 _ S J) ?_))
                go_roundg (L.length - (J + 1))
                case measure => have hkk := BB.out; omega
                case rel => exact ⟨J + 1, rfl, by omega, by rw [HV.out], by go_num, hB12⟩
              case false =>
                have hnone : firstIn (logsO os S) J e.2.1 = none := by
                  unfold agS at hag
                  rw [hid] at hag
                  exact Option.isNone_iff_eq_none.1 (by simpa using hag)
                obtain ⟨o', ho', hv1, hv2, hv3⟩ := new_out HX.out.1 hnone
                have hxo : x.2.2 = o' := Option.some.inj (HX.out.2.2.2.1.symm.trans ho')
                rw [← hxo] at hv1 hv2 hv3
                have HV := Lib.hid hv2
                have hb1 := fold_ver (logsO os S) (J + 1) (by have := (List.getElem?_eq_some_iff.1 HX.out.1).1; omega)
                rw [hv2] at hb1
                obtain ⟨V, hV⟩ : ∃ z, (foldTo (logsO os S) J).1.ver = z := ⟨_, rfl⟩
                obtain ⟨n, hn⟩ : ∃ z, x.2.2.2.2.length = z := ⟨_, rfl⟩
                obtain ⟨W, hW⟩ : ∃ z, x.2.2.2.1 = z := ⟨_, rfl⟩
                obtain ⟨C, hC⟩ : ∃ z, x.2.2.1 = z := ⟨_, rfl⟩
                rw [hV] at hv1 hver ⊢
                rw [hn] at hv1 hv3 y2
                rw [hW] at hv1 hb1 y1
                rw [hC] at hv3 y0
                have HVW := Lib.hid hW
                have hJ60 : J ≤ 60 := by omega
                have hne : (W != V + (n : Int)) = false := by simp [hv1]
                have hV0 : 0 ≤ V := hver.1
                have hV1 : V ≤ 60 := by omega
                have hn0 : (n : Int) ≤ 61 := by omega
                have hcc : (0 < n ∧ C = 1) ∨ (n = 0 ∧ C ≠ 1 ∧ W = V) := by
                  rcases Nat.eq_zero_or_pos n with h | h
                  · exact .inr ⟨h, fun hc => by have := hv3.1 hc; omega, by omega⟩
                  · exact .inl ⟨h, hv3.2 h⟩
                clear hag hid hnone ho' hv1 hv2 hv3 hxo hV hn hW hC hb1 hver
                rcases hcc with ⟨hn1, hc1⟩ | ⟨rfl, hc1, rfl⟩
                case' inl =>
                  have hni : (0 : Int) < (n : Int) := by omega
                  have hcb : (C == 1) = true := by simpa using hc1
                case' inr =>
                  have hcb : (C == 1) = false := by simpa using hc1
                  have hne2 : (W != W) = false := by simp
                  clear hne
                all_goals
                  clear hc1
                  go_wp2_with ((with_reducible refine at_list ?_); first | (refine wpList_agg_g rfl rfl Try.eqGuardType71 rfl rfl (neq_spt2 _ S J) ?_))
                  go_roundg (L.length - (J + 1))
                  case measure => have hkk := BB.out; omega
                  case rel => exact ⟨J + 1, rfl, by omega, by rw [HV.out, HVW.out], by go_num, hB12⟩
        · obtain rfl : i = L.length := by omega
          have hB2 := below_trans H9.out.2.1 hB H9.out.2.1.size
          go_wp2_with fail
          go_roundg (4 - (S + 1))
          case measure => have hkk := AA.out; omega
          case rel => exact ⟨S + 1, rfl, by omega, by go_num, hB2⟩
    · obtain rfl : S = 4 := by omega
      go_wp2_with fail
      refine (lives_any _).mono ?_
      rintro r w9 ⟨rfl, hb9⟩
      have hB9 := below_trans H7.out.2.1 (below_trans hB hb9 hB.size) H7.out.2.1.size
      go_wp2_with fail
      go_ret
      exact ⟨rfl, hB9⟩
end Go.Proofs.Ytifeokabecgimaa
