/-
  The walk over the statement BallotsPlay.
  What BallotsKeep's sites have, in plain Lean; seven registers as they lie.
  The walk over the statement BallotsKeep.
  A slice within a struct that comes in.
  Two slices of bytes that come in as an array.
-/
import Derived.Test.YtbicefilfhcgoaaBallotsKeepK1
import Derived.Test.YtbicefilfhcgoaaBallotsKeepK2
import Derived.Test.YtbicefilfhcgoaaBallotsKeepK3
import Derived.Test.YtbicefilfhcgoaaBallotsKeepK4
import Derived.Test.YtbicefilfhcgoaaBallotsKeepK5
import Derived.Test.YtbicefilfhcgoaaBallotsKeepK6
set_option linter.unusedSimpArgs false
set_option linter.unusedVariables false
set_option maxRecDepth 100000
namespace Go.Proofs.Ytbicefilfhcgoaa
open Go Go.RowKit Go.Sq Go.Wd Go.Arch

theorem begin_info : (Try.prog.info? 53).map (·.size) = some 9 := by kernel_rfl
theorem begin_reg (b : BegS) (own : RegS) (s : SlcE) : ∀ j, j < (rgv own s).length → (begcells' b own s)[5 + j]? = (rgv own s)[j]? := fun j hj => by
  have hj : j < 4 := hj
  obtain rfl | rfl | rfl | rfl : j = 0 ∨ j = 1 ∨ j = 2 ∨ j = 3 := by omega
  all_goals rfl
theorem samelog_of (s t : SlcE) (l : List Ent) (w : World) (hs : LogAt w w.heap.size s l) (ht : LogAt w w.heap.size t l) :
    Calls Try.prog 23 #[.slice s.1 s.2.1 s.2.2, .slice t.1 t.2.1 t.2.2] w fun e w' => e = .returned (.bool true) ∧ Below w.heap.size w w' :=
  same_yes l l hs.1 ht.1 rfl s.1 t.1 s.2.2 t.2.2 w hs.2.2.2 ht.2.2.2 (Nat.le_trans hs.2.1 hs.2.2.1) (Nat.le_trans ht.2.1 ht.2.2.1)
theorem mergeAC {G : Prop} (Inv : Option Addr → Nat → World → Prop) (K : Act → World → Prop) {F : Option Addr → Nat → Act} (h1 : (∀ A c w', Inv A c w' → K (F A c) w') → G) (h2 : ∀ A c w', Inv A c w' → K (F A c) w') : G := h1 h2

theorem bal_blk {w : World} {B g : Nat} {b : BegS} {S : Slots} (h : BalAt w B g b S) : ∃ cs, Blk w g 85 cs := by
  obtain ⟨sl, hb, _⟩ := h
  exact ⟨_, hb⟩
theorem blk_ne {w : World} {k q : Nat} {T U : TypeId} {cs ds : List Value} (h : Blk w k T cs) (h' : Blk w q U ds) (hT : T ≠ U) : some k ≠ some q := fun e => by
  obtain rfl := Option.some.inj e
  exact blk_not h hT _ h'
/-- All that lies there: the ballot, the document's one, what they began with. -/
def PlayI (w wr : World) (g h gb : Nat) (b : BegS) (own : RegS) (s : SlcE) (S : Slots) (L : List OneV) (v : Value) : Prop :=
  Below w.heap.size w wr ∧ BalAt wr w.heap.size g b S ∧ RefAt wr w.heap.size h b L v ∧ Blk wr gb 53 (begcells' b own s) ∧ w.heap.size ≤ g ∧ w.heap.size ≤ h ∧ g ≠ gb ∧ h ≠ gb
def PlayP (w : World) (S : Slots) (L : List OneV) : Prop := RelB S (prL L) ∧ (∀ x ∈ L, LogAt w w.heap.size x.s x.r.log) ∧ ∀ i, i < 7 → (regOf S i).log.length ≤ 64
section
variable {w wr wr' : World} {g h gb : Nat} {b : BegS} {own : RegS} {s : SlcE} {S : Slots} {L : List OneV} {v : Value}
theorem PlayI.keep (H : PlayI w wr g h gb b own s S L v) (hb : Below wr.heap.size wr wr') : PlayI w wr' g h gb b own s S L v := by
  obtain ⟨h1, h2, h3, h4, h5⟩ := H
  exact ⟨below_trans h1 hb h1.size, h2.keep hb, h3.keep hb, h4.keep hb, h5⟩
theorem PlayI.gh (H : PlayI w wr g h gb b own s S L v) : g ≠ h := by
  obtain ⟨_, ⟨sl, hb, _⟩, ⟨hr, _⟩, _⟩ := H
  intro e
  subst e
  exact blk_not hb (show 85 ≠ 82 by decide) _ hr
theorem mayR_len {r : RegS} (h : mayR r = true) : r.log.length ≤ 64 := ((okLog_iff _ _).1 ((mayR_iff r).1 h).2.1).1
theorem regs_put {k : Nat} {r : RegS} (hl : ∀ i, i < 7 → (regOf S i).log.length ≤ 64) (hr : r.log.length ≤ 64) : ∀ i, i < 7 → (regOf (put7 S k r) i).log.length ≤ 64 := fun i hi => by
  by_cases e : i = k
  · subst e
    rw [regOf_at]
    exact hr
  · rw [regOf_far _ _ e]
    exact hl i hi
/-- Behind the ballot's Add. -/
theorem PlayI.add {x : MailV} {e : Ending} (H : PlayI w wr g h gb b own s S L v) (hA : AddPost b S g w.heap.size x.m wr e wr') : e = .returned (.bool (decide (addOk b S x.m))) ∧ PlayI w wr' g h gb b own s (addS b S x.m) L v := by
  obtain ⟨he, hB, hK⟩ := hA
  have hgh := H.gh
  obtain ⟨h1, ⟨sl, hb, _⟩, h3, h4, h5, h6, h7, h8⟩ := H
  refine ⟨he, h1.trans (hK.below (B := w.heap.size) (fun k e => by cases e; exact h5) (fun k e => by cases e) h1.size), hB, h3.kept hK (fun e => hgh (Option.some.inj e).symm) (by simp) (fun q e => by cases e; exact blk_not hb (by decide)) (fun q e => by cases e), hK.blk h4 (fun e => h7 (Option.some.inj e).symm) (by simp), h5, h6, h7, h8⟩
/-- Behind the document's Add. -/
theorem PlayI.radd {x : MailV} {e : Ending} (H : PlayI w wr g h gb b own s (addS b S x.m) L v) (hP : PlayP w S L) (hx : LogAt w w.heap.size x.es x.m.ents) (hn : sitesE b.n = true) (hA : RAddPost b L v h w.heap.size x S wr e wr') :
    ∃ L' v', e = .returned (.bool (decide (addOk b S x.m))) ∧ PlayI w wr' g h gb b own s (addS b S x.m) L' v' ∧ PlayP w (addS b S x.m) L' := by
  have hgh := H.gh
  rcases hA with ⟨hok, rfl, v', hR, hK⟩ | ⟨hno, rfl, hR, hb⟩
  · refine ⟨L ++ [⟨x.m.from_, x.m.reg, x.es⟩], v', by rw [decide_eq_true hok], ?_, ?_⟩
    · obtain ⟨h1, ⟨sl, hb, hrow⟩, h3, h4, h5, h6, h7, h8⟩ := H
      have hown : ∀ q, v.ownBlock = some q → w.heap.size ≤ q := fun q e => (h3.2.lt q e).1
      refine ⟨h1.trans (hK.below (B := w.heap.size) (fun k e => by cases e; exact h6) hown h1.size), ?_, hR, ?_, h5, h6, h7, h8⟩
      · exact BalAt.kept ⟨sl, hb, hrow⟩ hK (fun e => hgh (Option.some.inj e)) (fun e => own_not h3.2 e.symm (show 97 ≠ 85 by decide) _ hb) (fun q e => by cases e; exact blk_not h3.1 (by decide)) (fun q e => own_not h3.2 e (by decide))
      · exact hK.blk h4 (fun e => h8 (Option.some.inj e).symm) (fun e => own_not h3.2 e.symm (show 97 ≠ 53 by decide) _ h4)
    · obtain ⟨p1, p2, p3⟩ := hP
      have ho := addOk_iff.1 hok
      rw [addS_yes hok]
      refine ⟨?_, fun y hy => ?_, regs_put p3 (mayR_len hok.2.1)⟩
      · have hk7 : keyM x.m < 7 := by
          have h1 := addOk_n hok
          have h2 := sites_cases hn
          unfold keyM
          omega
        have := relB_put p1 x.m.reg ho.2 hk7
        have e1 : ((keyM x.m : Nat) : Int) = x.m.from_ := by
          have h1 := addOk_n hok
          unfold keyM
          omega
        rw [e1] at this
        unfold prL at this ⊢
        rw [List.map_append]
        exact this
      · rcases List.mem_append.1 hy with hy | hy
        · exact p2 y hy
        · obtain rfl : y = _ := by simpa using hy
          exact hx
  · refine ⟨L, v, by rw [decide_eq_false hno], ?_, ?_⟩
    · exact H.keep hb
    · rw [addS_no hno]
      exact hP
theorem PlayP.len (hP : PlayP w S L) : L.length = (listTo S 7).length := by rw [← prL_len]; exact relB_len hP.1
end

set_option maxHeartbeats 16000000 in
theorem ballotsPlay_walk (b : BegS) (own : RegS) (s : SlcE) (l : List MailV) (A : Option Addr) (c : Nat) (w : World) (hs : LogAt w w.heap.size s own.log) (hl : Mails w w.heap.size A l) (hn : l.length ≤ 9223372036854775807) :
    Calls Try.prog 12 #[.agg (begcells' b own s).toArray, .slice A l.length c] w fun e w' => e = .returned (.bool true) ∧ Below w.heap.size w w' := by
  have hz : Below w.heap.size w (w.alloc (.cells (begcells' b own s).toArray 53)) := (Below.refl _ _).alloc (Nat.le_refl _) _
  have BR := Blk.new w 53 (begcells' b own s)
  have HH := Lib.hid (And.intro hz (And.intro BR (And.intro hs hl)))
  clear hz BR hs hl
  go_enter Try.func12, Try.ntmps12
  go_wp2_with ((with_reducible refine at_list ?_); first | refine wpList_load_blk rfl 53 _ rfl _ rfl _ _ _ (HH.out.2.1) Try.underlying53 rfl begin_info ?_)
  refine (beyond18_any b own s l A c _ HH.out.2.2.1.1 (HH.out.2.2.2.keep HH.out.1) hn).mono ?_
  rintro e w1 ⟨y, rfl, hfit, hb⟩
  have H1 := Lib.hid (And.intro (below_trans HH.out.1 hb HH.out.1.size) (HH.out.2.1.keep hb))
  have HA := Lib.hid HH.out.2.2
  clear hb HH
  cases y with
  | true =>
    clear hfit
    go_wp2_with fail
    refine (lives18_any _).mono ?_
    rintro e w2 ⟨rfl, hb⟩
    have hw2 := below_trans H1.out.1 hb H1.out.1.size
    go_wp2_with fail
    go_ret
    exact ⟨rfl, hw2⟩
  | false =>
  have HF := Lib.hid (hfit rfl)
  clear hfit
  have hgb : w.heap.size ≤ w.heap.size := Nat.le_refl _
  have hltb := H1.out.2.lt
  have FB : ∀ w', Blk w' w.heap.size 53 (begcells' b own s) → w'.cell? ⟨w.heap.size, 0, none⟩ = some (.int .i64 b.stream) ∧ w'.cell? ⟨w.heap.size, 1, none⟩ = some (.int .i64 b.epoch) ∧ w'.cell? ⟨w.heap.size, 2, none⟩ = some (.int .i64 b.site) ∧ w'.cell? ⟨w.heap.size, 3, none⟩ = some (.int .i64 b.n) ∧ w'.cell? ⟨w.heap.size, 4, none⟩ = some (.int .i64 b.stamp) := fun w' h => ⟨h.cell 0, h.cell 1, h.cell 2, h.cell 3, h.cell 4⟩
  obtain ⟨f0, f1, f2, f3, f4⟩ := FB _ H1.out.2
  go_wp2_with ((with_reducible refine at_list ?_); refine wpList_load_part rfl 24 _ rfl w.heap.size 5 rfl _ _ (rgv own s) H1.out.2 (begin_reg b own s) _ Try.underlying24 rfl rg_info ?_)
  refine (new_any b own s w1 (HA.out.1.keep H1.out.1) (by have := HF.out.1; omega)).mono ?_
  rintro e w2 (⟨hok, g, rfl, hgw, hB, hb2⟩ | ⟨hno, rfl, hb2⟩)
  case inr =>
    have H2 := Lib.hid (And.intro (below_trans H1.out.1 hb2 H1.out.1.size) (H1.out.2.keep hb2))
    clear hb2 H1 f0 f1 f2 f3 f4
    obtain ⟨f0, f1, f2, f3, f4⟩ := FB _ H2.out.2
    go_wp2_with ((with_reducible refine at_list ?_); refine wpList_load_part rfl 24 _ rfl w.heap.size 5 rfl _ _ (rgv own s) H2.out.2 (begin_reg b own s) _ Try.underlying24 rfl rg_info ?_)
    refine (rnew_any b own s w2 (HA.out.1.keep H2.out.1)).mono ?_
    rintro e w3 (⟨hok, _⟩ | ⟨_, rfl, hb3⟩)
    case inl => exact absurd hok hno
    have H3 := Lib.hid (below_trans H2.out.1 hb3 H2.out.1.size)
    clear hb3 H2 f0 f1 f2 f3 f4
    go_wp2_with fail
    refine (lives18_any _).mono ?_
    rintro e w4 ⟨rfl, hb⟩
    have hw4 := below_trans H3.out hb H3.out.size
    go_wp2_with fail
    go_ret
    exact ⟨rfl, hw4⟩
  have H2 := Lib.hid (show Below w.heap.size w w2 ∧ Blk w2 w.heap.size 53 (begcells' b own s) ∧ BalAt w2 w.heap.size g b (put7 no7 b.site.toNat own) ∧ w1.heap.size ≤ g from ⟨below_trans H1.out.1 hb2 H1.out.1.size, H1.out.2.keep hb2, hB.base H1.out.1.size, hgw⟩)
  clear hb2 hB hgw f0 f1 f2 f3 f4
  obtain ⟨f0, f1, f2, f3, f4⟩ := FB _ H2.out.2.1
  go_wp2_with ((with_reducible refine at_list ?_); refine wpList_load_part rfl 24 _ rfl w.heap.size 5 rfl _ _ (rgv own s) H2.out.2.1 (begin_reg b own s) _ Try.underlying24 rfl rg_info ?_)
  refine (rnew_any b own s w2 (HA.out.1.keep H2.out.1)).mono ?_
  rintro e w3 (⟨_, h, v, rfl, hhw, hR, hb3⟩ | ⟨hno, _⟩)
  case inr => exact absurd hok hno
  have hsn : sitesE b.n = true := hok.2.2.1
  have H3 := Lib.hid (show PlayI w w3 g h w.heap.size b own s (put7 no7 b.site.toNat own) [⟨b.site, own, s⟩] v ∧ PlayP w (put7 no7 b.site.toNat own) [⟨b.site, own, s⟩] from by
    obtain ⟨q1, q2, q3, q4⟩ := H2.out
    have z1 := q1.size
    have z2 := H1.out.1.size
    refine ⟨⟨below_trans q1 hb3 z1, q3.keep hb3, ⟨hR.1, hR.2.base z1⟩, q2.keep hb3, by omega, by omega, by omega, by have := q2.lt; omega⟩, ?_, ?_, ?_⟩
    · have hs7 := of_in hsn hok.2.2.2.1 hok.2.2.2.2.1
      have h2 := sites_cases hsn
      have h3 := relB_new b.site.toNat own (by omega)
      rw [show ((b.site.toNat : Nat) : Int) = b.site by have := hok.2.2.2.1; omega] at h3
      exact h3
    · intro x hx
      obtain rfl : x = _ := by simpa using hx
      exact HA.out.1
    · exact regs_put (fun i _ => by simp [regOf, no7, reg0]) (mayR_len hok.2.2.2.2.2.2.1))
  have HN := Lib.hid (And.intro hsn hok)
  clear hb3 hR hhw H2 H1 hok hsn f0 f1 f2 f3 f4 hltb
  go_wp2_with fail
  go_loopg [9] l.length (fun q i wr => ∃ (j : Nat) (S : Slots) (L : List OneV) (v : Value), q = l.length - j ∧ j ≤ l.length ∧ i = .int .i64 j ∧ PlayI w wr g h w.heap.size b own s S L v ∧ PlayP w S L)
  case atStart => exact ⟨0, _, _, _, rfl, by omega, rfl, H3.out.1, H3.out.2⟩
  case round =>
    clear H3
    obtain ⟨j, S, L, v, hq, hj, rfl, hI, hP⟩ := hrel
    have AA : Aside (gk = l.length - j) := hq
    clear hq
    obtain ⟨wo, rfl⟩ : ∃ wo, wo = wr := ⟨_, rfl⟩
    have HI := Lib.hid (And.intro hI hP)
    clear hI hP
    by_cases hlt : j < l.length
    · have j0 : (0 : Int) ≤ (j : Int) := by omega
      have j1 : (j : Int) < (l.length : Int) := by omega
      obtain ⟨b1, o1, x, rfl, hx, FA, hLx⟩ := HA.out.2.range hlt
      have hx2 : x.m.ents.length ≤ 100 := HF.out.2.2 x (List.mem_of_getElem? hx.out)
      have HFA := Lib.hid FA
      clear FA
      go_wp2_with fail
      refine wp_region_t (.quiet 0 (.quiet 1 (.quiet 2 (.quiet 3 (.quiet 4 (.quiet 6 (.quiet 7 (.quiet 8 (.quiet 9 (.quiet 10 (.one 5 (.one 11 (.quiet 12 (.quiet 13 (.quiet 14 (.quiet 16 (.one 15 (.one 17 (.quiet 18 (.quiet 19 (.quiet 20 (.quiet 21 (.quiet 24 (.quiet 25 (.quiet 26 (.two 22 27 (.quiet 23 (.one 27 (.quiet 28 (.quiet 29 (.quiet 30 .done))))) (.quiet 28 (.one 22 (.quiet 23 (.quiet 29 (.quiet 30 .done))))))))))))))))))))))))))))))) (fun w' => Below w.heap.size w w') (by kernel_rfl) (by kernel_rfl) (by kernel_rfl) (by kernel_rfl) (HI.out.1.1.drew) rfl ?_
      intro KP RP TP hKP hTP hTP'
      simp only [Sch.fill, nth]
      go_wp2_with (first
        | (apply SeqT.skip; rfl; simp only [Act.put, List.setIfInBounds_toArray, List.set_cons_zero, List.set_cons_succ])
        | (apply SeqT.pure; rfl; (intro w2 hw; have hw := hTP _ hw; exact exec_load_range 65 _ rfl _ _ rfl _ (HFA.out _ hw) _ Try.underlying65 rfl mail_info); simp only [Act.put, List.setIfInBounds_toArray, List.set_cons_zero, List.set_cons_succ])
        | (apply SeqT.pure; rfl; (intro w2 hw; have hw := hTP _ hw; (skip); go_simp; with_reducible rfl); simp only [Act.put, List.setIfInBounds_toArray, List.set_cons_zero, List.set_cons_succ]))
      have HI1 := Lib.hid (show PlayI w wo.drew g h w.heap.size b own s S L v ∧ PlayP w S L from ⟨HI.out.1.keep (Below.refl _ _).drew, HI.out.2⟩)
      clear HI
      generalize wo.drew = wq at *
      apply SeqT.one
      apply EffT.go
      · rfl
      intro KE hKE
      go_wp2_with fail
      refine (add_any w.heap.size g b S x wq HI1.out.1.2.1 HI1.out.1.1.size HN.out.1 (hLx.out.keep HI1.out.1.1) (by omega)).mono ?_
      rintro e w4 hA4
      obtain ⟨rfl, hI4⟩ := HI1.out.1.add hA4
      have HI4 := Lib.hid (And.intro hI4 HI1.out.2)
      clear hI4 hA4 HI1
      refine hKE _ _ (hTP' _ HI4.out.1.1) ?_
      clear hKE KE
      apply SeqT.one
      apply EffT.go
      · rfl
      intro KE hKE
      go_wp2_with fail
      refine (radd_any w.heap.size h b L v x S w4 HI4.out.1.2.2.1 HI4.out.1.1.size HN.out.1 (hLx.out.keep HI4.out.1.1) HI4.out.2.1 (by have := HI4.out.2.len; have := listTo_len S 7; omega)).mono ?_
      rintro e w5 hA5
      obtain ⟨L', v', rfl, hI5, hP5⟩ := HI4.out.1.radd HI4.out.2 hLx.out HN.out.1 hA5
      have HI5 := Lib.hid (And.intro hI5 hP5)
      clear hI5 hA5 HI4 hP5
      refine hKE _ _ (hTP' _ HI5.out.1.1) ?_
      clear hKE KE
      generalize addS b S x.m = S' at *
      generalize decide (addOk b S x.m) = ok
      have hnb : (ok != ok) = false := by simp
      go_wp2_with (first
        | (apply SeqT.skip; rfl; simp only [Act.put, List.setIfInBounds_toArray, List.set_cons_zero, List.set_cons_succ])
        | (apply SeqT.call; rfl; rfl; (intro w2 hw; have hw := hTP _ hw; (skip); go_simp; exact ⟨rfl, rfl⟩); (intro w2 hw; have hw := hTP _ hw; (skip); (first | fail)); simp only [Act.put, List.setIfInBounds_toArray, List.set_cons_zero, List.set_cons_succ])
        | (apply SeqT.pure; rfl; (intro w2 hw; have hw := hTP _ hw; (skip); go_simp; with_reducible rfl); simp only [Act.put, List.setIfInBounds_toArray, List.set_cons_zero, List.set_cons_succ]))
      have hn0 : b.n ≠ 0 := by rcases sites_cases HN.out.1 with e | e | e | e | e | e <;> omega
      obtain ⟨sl5, hbk5, _⟩ := HI5.out.1.2.1
      apply SeqT.one
      apply EffT.go
      · rfl
      intro KE hKE
      go_wp2_with fail
      refine (won_any g b S' sl5 w5 hbk5 hn0).mono ?_
      rintro e w6 ⟨rfl, hb6⟩
      have HI6 := Lib.hid (And.intro (HI5.out.1.keep hb6) HI5.out.2)
      clear hb6 HI5 hbk5
      refine hKE _ _ (hTP' _ HI6.out.1.1) ?_
      clear hKE KE
      apply SeqT.one
      apply EffT.go
      · rfl
      intro KE hKE
      go_wp2_with fail
      refine (rwon_any w.heap.size h b L' v' w6 HI6.out.1.2.2.1 HN.out.1).mono ?_
      rintro e w7 ⟨rfl, hb7⟩
      have HI7 := Lib.hid (And.intro (HI6.out.1.keep hb7) HI6.out.2)
      clear hb7 HI6
      have hLn := HI7.out.2.len
      have hwe : decide (majE b.n ≤ (L'.length : Int)) = wonS b S' := by unfold wonS; rw [hLn]
      rw [hwe]
      clear hwe
      refine hKE _ _ (hTP' _ HI7.out.1.1) ?_
      clear hKE KE
      generalize hwn : wonS b S' = wn
      have HWN := Lib.hid hwn
      clear hwn
      have hnw : (wn != wn) = false := by simp
      go_wp2_with (first
        | (apply SeqT.skip; rfl; simp only [Act.put, List.setIfInBounds_toArray, List.set_cons_zero, List.set_cons_succ])
        | (apply SeqT.call; rfl; rfl; (intro w2 hw; have hw := hTP _ hw; (skip); go_simp; exact ⟨rfl, rfl⟩); (intro w2 hw; have hw := hTP _ hw; (skip); (first | fail)); simp only [Act.put, List.setIfInBounds_toArray, List.set_cons_zero, List.set_cons_succ])
        | (apply SeqT.pure; rfl; (intro w2 hw; have hw := hTP _ hw; (skip); go_simp; with_reducible rfl); simp only [Act.put, List.setIfInBounds_toArray, List.set_cons_zero, List.set_cons_succ]))
      clear hnb hnw
      obtain ⟨A7, c7, rfl, _, _, _⟩ := Gr.Row.form HI7.out.1.2.2.1.2
      obtain ⟨sl7, hbk7, _⟩ := HI7.out.1.2.1
      have q5 : w7.cell? ⟨h, 5, none⟩ = some (.slice A7 L'.length c7) := HI7.out.1.2.2.1.1.cell 5
      have hsl : (sitesTo S' 7).length = L'.length := by rw [sitesTo_len, hLn]
      have hnl : ((L'.length : Int) != (L'.length : Int)) = false := by simp
      apply mergeAC (Inv := fun _ _ w' => PlayI w w' g h w.heap.size b own s S' L' (.slice A7 L'.length c7)) (K := KP)
      · intro HK
        apply SeqT.two
        · apply EffT.go
          · rfl
          intro KE hKE
          go_wp2_with fail
          refine (bsites_any g b S' sl7 w7 hbk7 hn0).mono ?_
          rintro e w8 ⟨v8, rfl, hR8, hb8⟩
          obtain ⟨A8, c8, rfl, _, _, _⟩ := RowI.form hR8
          rw [hsl]
          have HI8 := Lib.hid (HI7.out.1.keep hb8)
          refine hKE _ _ (hTP' _ HI8.out.1) ?_
          clear hKE KE hR8 hb8
          go_wp2_with (first
            | (apply SeqT.skip; rfl; simp only [Act.put, List.setIfInBounds_toArray, List.set_cons_zero, List.set_cons_succ])
            | (apply SeqT.call; rfl; rfl; (intro w2 hw; have hw := hTP _ hw; (skip); go_simp; exact ⟨rfl, rfl⟩); (intro w2 hw; have hw := hTP _ hw; (skip); (first | fail)); simp only [Act.put, List.setIfInBounds_toArray, List.set_cons_zero, List.set_cons_succ])
            | (apply SeqT.pure; rfl; (intro w2 hw; have hw := hTP _ hw; (skip); go_simp; with_reducible rfl); simp only [Act.put, List.setIfInBounds_toArray, List.set_cons_zero, List.set_cons_succ]))
          have q8 : w8.cell? ⟨h, 5, none⟩ = some (.slice A7 L'.length c7) := HI8.out.2.2.1.1.cell 5
          apply SeqT.one
          apply EffT.go
          · rfl
          intro KE hKE
          go_wp2_with fail
          refine hKE _ _ (hTP' _ (HI8.out.1)) ?_
          clear hKE KE
          go_wp2_with (first
            | (apply SeqT.skip; rfl; simp only [Act.put, List.setIfInBounds_toArray, List.set_cons_zero, List.set_cons_succ])
            | (apply SeqT.call; rfl; rfl; (intro w2 hw; have hw := hTP _ hw; (skip); go_simp; exact ⟨rfl, rfl⟩); (intro w2 hw; have hw := hTP _ hw; (skip); (first | fail)); simp only [Act.put, List.setIfInBounds_toArray, List.set_cons_zero, List.set_cons_succ])
            | (apply SeqT.pure; rfl; (intro w2 hw; have hw := hTP _ hw; (skip); go_simp; with_reducible rfl); simp only [Act.put, List.setIfInBounds_toArray, List.set_cons_zero, List.set_cons_succ]))
          apply SeqT.done
          exact HK A8 c8 w8 HI8.out
        · apply EffT.go
          · rfl
          intro KE hKE
          go_wp2_with fail
          refine hKE _ _ (hTP' _ (HI7.out.1.1)) ?_
          clear hKE KE
          go_wp2_with (first
            | (apply SeqT.skip; rfl; simp only [Act.put, List.setIfInBounds_toArray, List.set_cons_zero, List.set_cons_succ])
            | (apply SeqT.call; rfl; rfl; (intro w2 hw; have hw := hTP _ hw; (skip); go_simp; exact ⟨rfl, rfl⟩); (intro w2 hw; have hw := hTP _ hw; (skip); (first | fail)); simp only [Act.put, List.setIfInBounds_toArray, List.set_cons_zero, List.set_cons_succ])
            | (apply SeqT.pure; rfl; (intro w2 hw; have hw := hTP _ hw; (skip); go_simp; with_reducible rfl); simp only [Act.put, List.setIfInBounds_toArray, List.set_cons_zero, List.set_cons_succ]))
          apply SeqT.one
          apply EffT.go
          · rfl
          intro KE hKE
          go_wp2_with fail
          refine (bsites_any g b S' sl7 w7 hbk7 hn0).mono ?_
          rintro e w8 ⟨v8, rfl, hR8, hb8⟩
          obtain ⟨A8, c8, rfl, _, _, _⟩ := RowI.form hR8
          rw [hsl]
          have HI8 := Lib.hid (HI7.out.1.keep hb8)
          refine hKE _ _ (hTP' _ HI8.out.1) ?_
          clear hKE KE hR8 hb8
          go_wp2_with (first
            | (apply SeqT.skip; rfl; simp only [Act.put, List.setIfInBounds_toArray, List.set_cons_zero, List.set_cons_succ])
            | (apply SeqT.call; rfl; rfl; (intro w2 hw; have hw := hTP _ hw; (skip); go_simp; exact ⟨rfl, rfl⟩); (intro w2 hw; have hw := hTP _ hw; (skip); (first | fail)); simp only [Act.put, List.setIfInBounds_toArray, List.set_cons_zero, List.set_cons_succ])
            | (apply SeqT.pure; rfl; (intro w2 hw; have hw := hTP _ hw; (skip); go_simp; with_reducible rfl); simp only [Act.put, List.setIfInBounds_toArray, List.set_cons_zero, List.set_cons_succ]))
          apply SeqT.done
          exact HK A8 c8 w8 HI8.out
      intro A8 c8 w8 hI8
      refine hKP _ _ (hTP' _ hI8.1) ?_
      clear hKP hTP hTP' hsl hnl q5 hbk7 hLn
      have HI8 := Lib.hid (And.intro hI8 HI7.out.2)
      clear hI8 HI7
      go_wp2_with fail
      refine (chosen_any w.heap.size g b S' w8 HI8.out.1.2.1 HN.out.1 HI8.out.2.2.2).mono ?_
      rintro e w9 ⟨v9, rfl, hR9, hb9⟩
      have HI9 := Lib.hid (And.intro (HI8.out.1.keep hb9) HI8.out.2)
      have hch := chosen_same (b := b) HN.out.1 HI8.out.2.1
      obtain ⟨⟨lg, cm, er⟩, hz⟩ : ∃ z, chosenS b S' = z := ⟨_, rfl⟩
      rw [hz] at hch hR9 ⊢
      obtain ⟨s9, rfl, hL9⟩ := hR9.log
      have HL9 := Lib.hid (And.intro hL9 hch)
      clear hL9 hR9 hb9 HI8 hch hz
      go_wp2_with fail
      have hrc := rchosen_any w.heap.size h b L' (.slice A7 L'.length c7) w9 HI9.out.1.2.2.1 HN.out.1 (fun x hx => (HI9.out.2.2.1 x hx).keep HI9.out.1.1)
      rw [HL9.out.2] at hrc
      refine hrc.mono ?_
      clear hrc
      rintro e wa ⟨sa, rfl, hLa, hba⟩
      have HIa := Lib.hid (And.intro (HI9.out.1.keep hba) HI9.out.2)
      have HLa := Lib.hid (And.intro (HL9.out.1.keep hba) hLa)
      clear hLa hba HI9 HL9
      have hcm : (cm != cm) = false := by simp
      have her : (er != er) = false := by simp
      go_wp2_with fail
      refine (samelog_of s9 sa lg wa HLa.out.1 HLa.out.2).mono ?_
      rintro e wb ⟨rfl, hbb⟩
      have HIb := Lib.hid (And.intro (HIa.out.1.keep hbb) HIa.out.2)
      clear hbb HIa HLa
      go_wp2_with fail
      go_roundg (l.length - (j + 1))
      case measure => have hkk := AA.out; omega
      case rel => exact ⟨j + 1, S', L', _, rfl, by omega, by go_num, HIb.out.1, HIb.out.2⟩
    · obtain rfl : j = l.length := by omega
      have j1 : ¬ (l.length : Int) < (l.length : Int) := by omega
      have hn0 : b.n ≠ 0 := by rcases sites_cases HN.out.1 with e | e | e | e | e | e <;> omega
      go_wp2_with fail
      have HI1 := Lib.hid (show PlayI w wo.drew g h w.heap.size b own s S L v ∧ PlayP w S L from ⟨HI.out.1.keep (Below.refl _ _).drew, HI.out.2⟩)
      clear HI
      refine wp_region_p ([(0, true), (2, true), (3, true), (1, false), (4, true), (5, true), (6, true), (8, true), (9, true), (7, false), (10, true), (11, true), (12, true), (13, false), (14, true), (15, true)]) (fun w' => Blk w' w.heap.size 53 (begcells' b own s)) (by kernel_rfl) rfl (by kernel_rfl) (by kernel_rfl) (HI1.out.1.2.2.2.1) rfl ?_
      intro KP RP TP hKP hTP hTP'
      simp only [List.append_eq, List.cons_append, List.nil_append, pick, nth]
      generalize wo.drew = wq at *
      go_wp2_with (first
        | (apply SeqP.skip; rfl; simp only [Act.put, List.setIfInBounds_toArray, List.set_cons_zero, List.set_cons_succ])
        | (apply SeqP.call; rfl; rfl; (intro w2 hw; have hw := hTP _ hw; ((obtain ⟨f0, f1, f2, f3, f4⟩ := FB _ hw)); go_simp; exact ⟨rfl, rfl⟩); (intro w2 hw; have hw := hTP _ hw; ((obtain ⟨f0, f1, f2, f3, f4⟩ := FB _ hw)); (first | fail)); simp only [Act.put, List.setIfInBounds_toArray, List.set_cons_zero, List.set_cons_succ])
        | (apply SeqP.pure; rfl; (intro w2 hw; have hw := hTP _ hw; ((obtain ⟨f0, f1, f2, f3, f4⟩ := FB _ hw)); go_simp; with_reducible rfl); simp only [Act.put, List.setIfInBounds_toArray, List.set_cons_zero, List.set_cons_succ])
        | (apply SeqP.split; rfl; rfl; all_goals (intro hc; simp only [hc]; try simp only [beq_iff_eq, decide_eq_true_eq, beq_eq_false_iff_ne, decide_eq_false_iff_not, bne_iff_ne, ne_eq, Bool.not_eq_true', Bool.not_eq_false', Int.not_le, Int.not_lt, bne_eq_false_iff_eq, Bool.or_eq_true, Bool.and_eq_true, Bool.or_eq_false_iff] at hc)))
      apply SeqP.eff
      · rfl
      intro KE hKE
      go_wp2_with fail
      refine (bepoch_any w.heap.size g b S wq HI1.out.1.2.1 hn0).mono ?_
      rintro e w4 ⟨rfl, rfl⟩
      refine hKE _ _ (hTP' _ HI1.out.1.2.2.2.1) ?_
      clear hKE KE
      have he : (b.epoch == b.epoch) = true := by simp
      go_wp2_with (first
        | (apply SeqP.skip; rfl; simp only [Act.put, List.setIfInBounds_toArray, List.set_cons_zero, List.set_cons_succ])
        | (apply SeqP.call; rfl; rfl; (intro w2 hw; have hw := hTP _ hw; ((obtain ⟨f0, f1, f2, f3, f4⟩ := FB _ hw)); go_simp; exact ⟨rfl, rfl⟩); (intro w2 hw; have hw := hTP _ hw; ((obtain ⟨f0, f1, f2, f3, f4⟩ := FB _ hw)); (first | fail)); simp only [Act.put, List.setIfInBounds_toArray, List.set_cons_zero, List.set_cons_succ])
        | (apply SeqP.pure; rfl; (intro w2 hw; have hw := hTP _ hw; ((obtain ⟨f0, f1, f2, f3, f4⟩ := FB _ hw)); go_simp; with_reducible rfl); simp only [Act.put, List.setIfInBounds_toArray, List.set_cons_zero, List.set_cons_succ])
        | (apply SeqP.split; rfl; rfl; all_goals (intro hc; simp only [hc]; try simp only [beq_iff_eq, decide_eq_true_eq, beq_eq_false_iff_ne, decide_eq_false_iff_not, bne_iff_ne, ne_eq, Bool.not_eq_true', Bool.not_eq_false', Int.not_le, Int.not_lt, bne_eq_false_iff_eq, Bool.or_eq_true, Bool.and_eq_true, Bool.or_eq_false_iff] at hc)))
      apply SeqP.eff
      · rfl
      intro KE hKE
      go_wp2_with fail
      refine (bstamp_any w.heap.size g b S w4 HI1.out.1.2.1 hn0).mono ?_
      rintro e w5 ⟨rfl, rfl⟩
      refine hKE _ _ (hTP' _ HI1.out.1.2.2.2.1) ?_
      clear hKE KE
      have hs : (b.stamp == b.stamp) = true := by simp
      go_wp2_with (first
        | (apply SeqP.skip; rfl; simp only [Act.put, List.setIfInBounds_toArray, List.set_cons_zero, List.set_cons_succ])
        | (apply SeqP.call; rfl; rfl; (intro w2 hw; have hw := hTP _ hw; ((obtain ⟨f0, f1, f2, f3, f4⟩ := FB _ hw)); go_simp; exact ⟨rfl, rfl⟩); (intro w2 hw; have hw := hTP _ hw; ((obtain ⟨f0, f1, f2, f3, f4⟩ := FB _ hw)); (first | fail)); simp only [Act.put, List.setIfInBounds_toArray, List.set_cons_zero, List.set_cons_succ])
        | (apply SeqP.pure; rfl; (intro w2 hw; have hw := hTP _ hw; ((obtain ⟨f0, f1, f2, f3, f4⟩ := FB _ hw)); go_simp; with_reducible rfl); simp only [Act.put, List.setIfInBounds_toArray, List.set_cons_zero, List.set_cons_succ])
        | (apply SeqP.split; rfl; rfl; all_goals (intro hc; simp only [hc]; try simp only [beq_iff_eq, decide_eq_true_eq, beq_eq_false_iff_ne, decide_eq_false_iff_not, bne_iff_ne, ne_eq, Bool.not_eq_true', Bool.not_eq_false', Int.not_le, Int.not_lt, bne_eq_false_iff_eq, Bool.or_eq_true, Bool.and_eq_true, Bool.or_eq_false_iff] at hc)))
      apply SeqP.eff
      · rfl
      intro KE hKE
      go_wp2_with fail
      refine (lives18_any _).mono ?_
      rintro e w6 ⟨rfl, hb6⟩
      have HI6 := Lib.hid (HI1.out.1.keep hb6)
      refine hKE _ _ (hTP' _ HI6.out.2.2.2.1) ?_
      clear hKE KE hb6
      go_wp2_with (first
        | (apply SeqP.skip; rfl; simp only [Act.put, List.setIfInBounds_toArray, List.set_cons_zero, List.set_cons_succ])
        | (apply SeqP.call; rfl; rfl; (intro w2 hw; have hw := hTP _ hw; ((obtain ⟨f0, f1, f2, f3, f4⟩ := FB _ hw)); go_simp; exact ⟨rfl, rfl⟩); (intro w2 hw; have hw := hTP _ hw; ((obtain ⟨f0, f1, f2, f3, f4⟩ := FB _ hw)); (first | fail)); simp only [Act.put, List.setIfInBounds_toArray, List.set_cons_zero, List.set_cons_succ])
        | (apply SeqP.pure; rfl; (intro w2 hw; have hw := hTP _ hw; ((obtain ⟨f0, f1, f2, f3, f4⟩ := FB _ hw)); go_simp; with_reducible rfl); simp only [Act.put, List.setIfInBounds_toArray, List.set_cons_zero, List.set_cons_succ])
        | (apply SeqP.split; rfl; rfl; all_goals (intro hc; simp only [hc]; try simp only [beq_iff_eq, decide_eq_true_eq, beq_eq_false_iff_ne, decide_eq_false_iff_not, bne_iff_ne, ne_eq, Bool.not_eq_true', Bool.not_eq_false', Int.not_le, Int.not_lt, bne_eq_false_iff_eq, Bool.or_eq_true, Bool.and_eq_true, Bool.or_eq_false_iff] at hc)))
      apply SeqP.nil
      refine hKP _ _ (hTP' _ (HI6.out.2.2.2.1)) ?_
      clear hKP hTP hTP'
      go_wp2_with fail
      go_ret
      exact ⟨rfl, HI6.out.1⟩
end Go.Proofs.Ytbicefilfhcgoaa

set_option linter.unusedSimpArgs false
set_option linter.unusedVariables false
set_option maxRecDepth 100000
namespace Go.Wd
open Go Go.RowKit
theorem wp_store_part {P : Program} {w : World} {o : Oper} {a : Act} {K : Act → World → Prop} {Q : Exit → Act → World → Prop} (ty : TypeId) (x y : Operand) (ho : o.op = .store ty x y)
    (g i : Nat) (cs : List Value) (hx : a.eval x = .pointer (some ⟨g, i, none⟩)) (hy : a.eval y = .agg cs.toArray) (t : TypeId) (all : List Value) (hg : Blk w g t all) (hl : i + cs.length ≤ all.length)
    (hi : (P.info? ty).map (·.size) = some cs.length) (h1 : ∀ v ∈ cs, v.oneCell' = true)
    (h : ∀ w', Blk w' g t (setAll all i cs) → (∀ B, B ≤ g → Below B w w') → K (a.put o.dst undef) w') : o.wp P a w K Q := by
  refine wp_store_mid ty x y ho g i cs.toArray hx hy (fun j hj => ⟨?_, hg.frozen _⟩) (by simpa using hi) (all_oneCell_toArray h1) (h _ (hg.setCells cs i all) (fun B hB => below_setCells' hB cs i w w (Below.refl _ _)))
  rw [hg.cell]
  have : i + j < all.length := by simp at hj; omega
  rw [List.getElem?_eq_getElem this]
  rfl
end Go.Wd
namespace Go.Proofs.Ytbicefilfhcgoaa
open Go Go.RowKit Go.Sq Go.Wd Go.Arch

def eK (id ep : Int) : Ent := (ep, id, 0, -1, 2, 1)
def logK : List Ent := [eK 1 1, eK 2 1, eK 3 4, eK 4 4, eK 5 4]
def laterK : List Ent := [eK 1 1, eK 2 1, eK 3 4, eK 8 6, eK 9 6]
def sureK : List Ent := [eK 1 1, eK 2 1, eK 3 4]
/-- What is said of the register of site i. -/
def KeepP (i : Nat) (r : RegS) : Prop := r.prom = 0 ∧ r.com = 0 ∧ r.log.length ≤ 5 ∧ (r.view < 4 ∨ r.log.take 3 = sureK) ∧ (i = 0 → 4 ≤ r.view ∧ r.view ≤ 6 ∧ okLog r.log r.view = true)
theorem three_five {m : Nat} (h : 3 ≤ m) (h5 : m ≤ 5) : m = 3 ∨ m = 4 ∨ m = 5 := by omega
theorem keep_log {i m : Nat} (h : 3 ≤ m) (h5 : m ≤ 5) : KeepP i ⟨0, 4, logK.take m, 0⟩ := by
  rcases three_five h h5 with rfl | rfl | rfl
  all_goals exact ⟨rfl, rfl, by decide, .inr rfl, fun _ => ⟨by decide, by decide, by decide⟩⟩
theorem keep_later {i m : Nat} (h : 3 ≤ m) (h5 : m ≤ 5) : KeepP i ⟨0, 6, laterK.take m, 0⟩ := by
  rcases three_five h h5 with rfl | rfl | rfl
  all_goals exact ⟨rfl, rfl, by decide, .inr rfl, fun _ => ⟨by decide, by decide, by decide⟩⟩
theorem keep_low {i m : Nat} {v : Int} (hi : i ≠ 0) (hv : v < 4) : KeepP i ⟨0, v, laterK.take m, 0⟩ :=
  ⟨rfl, rfl, by show (laterK.take m).length ≤ 5; rw [List.length_take]; exact Nat.min_le_right _ _, .inl hv, fun h => absurd h hi⟩
/-- What the ballot has. -/
def KeepS (S : Slots) : Prop := (∀ i, i < 7 → ∀ r, S i = some r → (r.view < 4 ∨ r.log.take 3 = sureK) ∧ r.log.length ≤ 64) ∧ ∃ r0, S 0 = some r0 ∧ 4 ≤ r0.view
theorem keepS_add {b : BegS} {S : Slots} {m : MailS} (h : KeepS S) (hv : m.view < 4 ∨ m.ents.take 3 = sureK) (hl : m.ents.length ≤ 64) : KeepS (addS b S m) := by
  by_cases ha : addOk b S m
  · rw [addS_yes ha]
    obtain ⟨h1, r0, h2, h3⟩ := h
    have hk : keyM m ≠ 0 := fun e => by
      have := (addOk_iff.1 ha).2
      rw [e, h2] at this
      cases this
    refine ⟨fun i hi r hr => ?_, r0, by rw [put7_far S _ (fun e => hk e.symm)]; exact h2, h3⟩
    by_cases e : i = keyM m
    · subst e
      rw [put7_at] at hr
      cases hr
      exact ⟨hv, hl⟩
    · rw [put7_far S _ e] at hr
      exact h1 i hi r hr
  · rw [addS_no ha]
    exact h
theorem keepS_best {S : Slots} (h : KeepS S) : sureK <+: bestLog S := by
  obtain ⟨h1, r0, h2, h3⟩ := h
  obtain ⟨q, _, hq, hv, i, hi, hS⟩ := best_in (show 0 < 7 by omega) h2
  rw [hq]
  rcases (h1 i hi q hS).1 with h | h
  · omega
  · rw [← h]
    exact List.take_prefix _ _
theorem keepS_len {S : Slots} (h : KeepS S) : ∀ i, i < 7 → (regOf S i).log.length ≤ 64 := fun i hi => by
  unfold regOf
  cases hS : S i with
  | none => simp [reg0]
  | some r => exact (h.1 i hi r hS).2
theorem next_keep {n : Int} (h : sitesE n = true) : ∃ ep, nextE 10 0 n = (ep, 0) ∧ ofE ep n = 0 ∧ 11 ≤ ep ∧ ep ≤ 15 := by
  rcases sites_cases h with rfl | rfl | rfl | rfl | rfl | rfl
  · exact ⟨11, by decide, by decide, by decide, by decide⟩
  · exact ⟨13, by decide, by decide, by decide, by decide⟩
  · exact ⟨13, by decide, by decide, by decide, by decide⟩
  · exact ⟨11, by decide, by decide, by decide, by decide⟩
  · exact ⟨13, by decide, by decide, by decide, by decide⟩
  · exact ⟨15, by decide, by decide, by decide, by decide⟩
theorem new_keep {n ep : Int} {r : RegS} (hn : sitesE n = true) (h1 : ofE ep n = 0) (h2 : 11 ≤ ep) (h3 : ep ≤ 15) (hr : KeepP 0 r) : newOk ⟨0, ep, 0, n, 5⟩ ⟨ep, r.view, r.log, 0⟩ ∧ mayR ⟨ep, r.view, r.log, 0⟩ = true := by
  obtain ⟨_, _, hl, _, h0⟩ := hr
  obtain ⟨v1, v2, ho⟩ := h0 rfl
  have hm : mayR ⟨ep, r.view, r.log, 0⟩ = true := (mayR_iff _).2 ⟨⟨by show 0 ≤ r.view; omega, by show r.view ≤ ep; omega, by show ep ≤ 1048576; omega⟩, ho, Int.le_refl _, by show (0 : Int) ≤ (r.log.length : Int); omega⟩
  exact ⟨⟨by show (0 : Int) ≤ 0; decide, by show (0 : Int) < 4; decide, hn, by show (0 : Int) ≤ 0; decide, h1, by show ep ≤ 1048576; omega, hm, rfl, by show r.view < ep; omega⟩, hm⟩
theorem keepS_new {r : RegS} (hr : KeepP 0 r) (ep : Int) : KeepS (put7 no7 0 ⟨ep, r.view, r.log, 0⟩) := by
  obtain ⟨_, _, hl, hv, h0⟩ := hr
  obtain ⟨v1, _, _⟩ := h0 rfl
  refine ⟨fun i hi q hq => ?_, _, put7_at _ _ _, v1⟩
  by_cases e : i = 0
  · subst e
    rw [put7_at] at hq
    cases hq
    exact ⟨hv, by show r.log.length ≤ 64; omega⟩
  · rw [put7_far _ _ e] at hq
    cases hq

/-- Seven registers. -/
theorem regsv_len (S : Slots) (sl : Sls) : (regsv S sl).length = 28 := rfl
theorem regsv_slot (S : Slots) (sl : Sls) {k : Nat} (h : k < 7) : ∀ j, j < (slotv S sl k).length → (regsv S sl)[k * 4 + j]? = (slotv S sl k)[j]? := fun j hj => by
  have hj : j < 4 := hj
  obtain rfl | rfl | rfl | rfl | rfl | rfl | rfl := cases7 h
  all_goals
    obtain rfl | rfl | rfl | rfl : j = 0 ∨ j = 1 ∨ j = 2 ∨ j = 3 := by omega
    all_goals rfl
theorem regsv_put (S : Slots) (sl : Sls) {k : Nat} (h : k < 7) (r : RegS) (s : SlcE) : setAll (regsv S sl) (k * 4) (rgv r s) = regsv (put7 S k r) (upS sl k s) := by
  obtain rfl | rfl | rfl | rfl | rfl | rfl | rfl := cases7 h
  all_goals rfl
theorem regs7_info : (Try.prog.info? 70).map (·.size) = some 28 := by kernel_rfl
/-- Entries written out. -/
theorem lit_logs (w : World) (l : List Ent) (hl : l.length ≤ 2000) : LogAt (w.alloc (.cells (flat l).toArray 44)) (w.heap.size + 1) (some ⟨w.heap.size, 0, none⟩, l.length, l.length) l := by
  have hR : Row (w.alloc (.cells (flat l).toArray 44)) w.heap.size (.slice (some ⟨w.heap.size, 0, none⟩) l.length l.length) l :=
    ⟨flat_len l, .inr ⟨w.heap.size, l.length, (flat l).toArray, rfl, Nat.le_refl _, heap_alloc_new w _, Nat.le_refl _, by simp only [maxLen]; omega, by simp [flat_len], by rw [← flat_len l]; simp⟩⟩
  obtain ⟨⟨a, n, c⟩, he, h⟩ := hR.log
  cases he
  have hs : (w.alloc (.cells (flat l).toArray 44)).heap.size = w.heap.size + 1 := by simp
  rw [hs] at h
  exact h
theorem LogAt.takeTo {w : World} {B : Nat} {A : Option Addr} {n c : Nat} {l : List Ent} (h : LogAt w B (A, n, c) l) {m : Nat} (hm : m ≤ l.length) : LogAt w B (A, m, c) (l.take m) :=
  ⟨by show m = (l.take m).length; rw [List.length_take]; omega, by rw [List.length_take]; have := h.2.1; show min m l.length ≤ c; have h2 : l.length ≤ c := h.2.1; omega, h.2.2.1, h.2.2.2.take m⟩
/-- The sites' registers, up to site j. -/
def KeepI (wL wr : World) (gr : Nat) (j : Nat) (S : Slots) (sl : Sls) : Prop :=
  Below wL.heap.size wL wr ∧ Blk wr gr 70 (regsv S sl) ∧ wL.heap.size ≤ gr ∧ ∀ i, i < j → ∃ r, S i = some r ∧ KeepP i r ∧ LogAt wL wL.heap.size (sl i) r.log
theorem KeepI.less {wL wr : World} {gr j j' : Nat} {S : Slots} {sl : Sls} (h : KeepI wL wr gr j S sl) (hj : j' ≤ j) : KeepI wL wr gr j' S sl := ⟨h.1, h.2.1, h.2.2.1, fun i hi => h.2.2.2 i (by omega)⟩
theorem KeepI.put {wL wr : World} {gr j : Nat} {S : Slots} {sl : Sls} (h : KeepI wL wr gr j S sl) (hj : j < 7) {r : RegS} {s : SlcE} (hr : KeepP j r) (hs : LogAt wL wL.heap.size s r.log) {wr' : World} (hb : Below wL.heap.size wr wr')
    (hB : Blk wr' gr 70 (setAll (regsv S sl) (j * 4) (rgv r s))) : KeepI wL wr' gr (j + 1) (put7 S j r) (upS sl j s) := by
  obtain ⟨h1, h2, h3, h4⟩ := h
  rw [regsv_put S sl hj] at hB
  refine ⟨h1.trans hb, hB, h3, fun i hi => ?_⟩
  by_cases e : i = j
  · subst e
    exact ⟨r, put7_at _ _ _, hr, by rw [upS_at]; exact hs⟩
  · obtain ⟨q, q1, q2, q3⟩ := h4 i (by omega)
    exact ⟨q, by rw [put7_far _ _ e]; exact q1, q2, by rw [upS_far _ _ e]; exact q3⟩
end Go.Proofs.Ytbicefilfhcgoaa

set_option linter.unusedSimpArgs false
set_option linter.unusedVariables false
set_option maxRecDepth 100000
namespace Go.Proofs.Ytbicefilfhcgoaa
open Go Go.RowKit Go.Sq Go.Wd Go.Arch

theorem entry18_any (id ep : Int) (w : World) :
    Calls Try.prog 35 #[.int .i64 id, .int .i64 ep] w fun e w' => e = .returned (.agg #[.int .i64 ep, .int .i64 id, .int .i64 0, .int .i64 (-1), .int .i64 2, .int .i64 1]) ∧ Below w.heap.size w w' := by
  have hw := Below.refl w.heap.size w
  go_enter Try.func35, Try.ntmps35
  go_wp2_with fail
  apply ret_of
  · simp only [results, Try.results35]
    go_simp
    with_reducible rfl
  refine ⟨rfl, ?_⟩
  exact ⟨rfl, by (repeat (first | with_reducible apply Below.drew | with_reducible refine Below.setCell ?_ (by first | exact Nat.le_refl _ | (simp; done) | (simp; omega) | omega) _ | with_reducible refine Below.alloc ?_ (by first | exact Nat.le_refl _ | (simp; done) | (simp; omega) | omega) _ | with_reducible exact Below.refl _ _ | with_reducible assumption))⟩

set_option maxHeartbeats 16000000 in
theorem ballotsKeep_walk (z : Int) (hz0 : 0 ≤ z) (hz1 : z ≤ 255) (vs ls ws : List Int) (A1 A2 A3 : Option Addr) (c1 c2 c3 : Nat) (w : World) (h1 : Nums w w.heap.size A1 .u8 vs) (h2 : Nums w w.heap.size A2 .u8 ls) (h3 : Nums w w.heap.size A3 .u8 ws)
    (b1 : ∀ x ∈ vs, 0 ≤ x ∧ x ≤ 255) (b2 : ∀ x ∈ ls, 0 ≤ x ∧ x ≤ 255) (b3 : ∀ x ∈ ws, 0 ≤ x ∧ x ≤ 255) (n1 : vs.length ≤ 9223372036854775807) (n2 : ls.length ≤ 9223372036854775807) (n3 : ws.length ≤ 9223372036854775807) :
    Calls Try.prog 11 #[.int .u8 z, .agg #[.slice A1 vs.length c1, .slice A2 ls.length c2], .slice A3 ws.length c3] w fun e w' => e = .returned (.bool true) ∧ Below w.heap.size w w' := by
  have hzb : Below w.heap.size w (w.alloc (.cells #[.slice A1 vs.length c1, .slice A2 ls.length c2] 69)) := (Below.refl _ _).alloc (Nat.le_refl _) _
  have BS : Blk (w.alloc (.cells #[.slice A1 vs.length c1, .slice A2 ls.length c2] 69)) w.heap.size 69 [.slice A1 vs.length c1, .slice A2 ls.length c2] := Blk.new w _ _
  have HA := Lib.hid (And.intro h1 (And.intro h2 (And.intro h3 (And.intro b1 (And.intro b2 b3)))))
  have HZ := Lib.hid (And.intro hzb BS)
  clear h1 h2 h3 b1 b2 b3 hzb BS
  have FS : ∀ w', Blk w' w.heap.size 69 [.slice A1 vs.length c1, .slice A2 ls.length c2] → w'.cell? ⟨w.heap.size, 0, none⟩ = some (.slice A1 vs.length c1) ∧ w'.cell? ⟨w.heap.size, 1, none⟩ = some (.slice A2 ls.length c2) := fun w' h => ⟨h.cell 0, h.cell 1⟩
  obtain ⟨q, hq⟩ := Int.eq_ofNat_of_zero_le (show 0 ≤ z % 6 by omega)
  have hq6 : q < 6 := by omega
  have hqt : Int.tmod z 6 = (q : Int) := by rw [Int.tmod_eq_emod_of_nonneg hz0, hq]
  go_enter Try.func11, Try.ntmps11
  go_wp2_with fail
  refine wp_region_p ([(0, true), (1, true), (2, true), (3, true), (4, true), (5, true)]) (fun w' => Blk w' w.heap.size 69 [.slice A1 vs.length c1, .slice A2 ls.length c2]) (by kernel_rfl) rfl (by kernel_rfl) (by kernel_rfl) (HZ.out.2.drew) rfl ?_
  intro KP RP TP hKP hTP hTP'
  simp only [List.append_eq, List.cons_append, List.nil_append, pick, nth]
  go_wp2_with (first
    | (apply SeqP.skip; rfl; simp only [Act.put, List.setIfInBounds_toArray, List.set_cons_zero, List.set_cons_succ])
    | (apply SeqP.call; rfl; rfl; (intro w2 hw; have hw := hTP _ hw; ((obtain ⟨f0, f1⟩ := FS _ hw)); go_simp; exact ⟨rfl, rfl⟩); (intro w2 hw; have hw := hTP _ hw; ((obtain ⟨f0, f1⟩ := FS _ hw)); (first | fail)); simp only [Act.put, List.setIfInBounds_toArray, List.set_cons_zero, List.set_cons_succ])
    | (apply SeqP.pure; rfl; (intro w2 hw; have hw := hTP _ hw; ((obtain ⟨f0, f1⟩ := FS _ hw)); go_simp; with_reducible rfl); simp only [Act.put, List.setIfInBounds_toArray, List.set_cons_zero, List.set_cons_succ])
    | (apply SeqP.split; rfl; rfl; all_goals (intro hc; simp only [hc]; try simp only [beq_iff_eq, decide_eq_true_eq, beq_eq_false_iff_ne, decide_eq_false_iff_not, bne_iff_ne, ne_eq, Bool.not_eq_true', Bool.not_eq_false', Int.not_le, Int.not_lt, bne_eq_false_iff_eq, Bool.or_eq_true, Bool.and_eq_true, Bool.or_eq_false_iff] at hc)))
  apply SeqP.nil
  refine hKP _ _ (hTP' _ (HZ.out.2.drew)) ?_
  clear hKP hTP hTP'
  have HZ1 := Lib.hid HZ.out.1.drew
  clear HZ FS
  go_wp2_with fail
  all_goals first
    | (refine (lives18_any _).mono ?_
       rintro e w2 ⟨rfl, hb⟩
       have hw2 := below_trans HZ1.out hb HZ1.out.size
       go_wp2_with fail
       go_ret
       exact ⟨rfl, hw2⟩)
    | skip
  rename_i hv1 hv2 hv3 K1 _ K2 _
  obtain ⟨n, hn⟩ : ∃ n : Nat, (2 + (q : Int)) = (n : Int) := ⟨2 + q, by omega⟩
  have hsn : sitesE (n : Int) = true := by
    unfold sitesE
    simp only [decide_eq_true_eq]
    omega
  have hvl : n ≤ vs.length ∧ n ≤ ls.length ∧ ws.length ≤ 60 := by omega
  rw [hn]
  have hn7 : 2 ≤ n ∧ n ≤ 7 := by omega
  have HN := Lib.hid (And.intro hsn hvl)
  clear hv1 hv2 hv3 hsn hvl hn hq hqt hq6 hz0 hz1
  have hw0 := HZ1.out
  refine (entry18_any _ _ _).mono ?_
  rintro e w1 ⟨rfl, hb⟩
  have hw1 := below_trans hw0 hb hw0.size
  clear hb
  go_wp2_with fail
  refine (entry18_any _ _ _).mono ?_
  rintro e w2 ⟨rfl, hb⟩
  have hw2 := below_trans hw1 hb hw1.size
  clear hb
  go_wp2_with fail
  refine (entry18_any _ _ _).mono ?_
  rintro e w3 ⟨rfl, hb⟩
  have hw3 := below_trans hw2 hb hw2.size
  clear hb
  go_wp2_with fail
  refine (entry18_any _ _ _).mono ?_
  rintro e w4 ⟨rfl, hb⟩
  have hw4 := below_trans hw3 hb hw3.size
  clear hb
  go_wp2_with fail
  refine (entry18_any _ _ _).mono ?_
  rintro e w5 ⟨rfl, hb⟩
  have hw5 := below_trans hw4 hb hw4.size
  clear hb
  go_wp2_with fail
  have HL := Lib.hid (And.intro (hw5.alloc hw5.size (.cells (flat logK).toArray 44)) (lit_logs w5 logK (by decide)))
  refine abs_calls (fun W => Below w.heap.size w W ∧ LogAt W (w5.heap.size + 1) (some ⟨w5.heap.size, 0, none⟩, 5, 5) logK ∧ w5.heap.size + 1 = W.heap.size) ⟨HL.out.1, HL.out.2, by simp⟩ ?_
  rintro w6 ⟨hw6, hlog, hsz6⟩
  rw [hsz6] at hlog
  clear HL hw0 hw1 hw2 hw3 hw4 hw5 hsz6
  generalize w5.heap.size = gl at *
  try clear w5
  try clear w4
  try clear w3
  try clear w2
  try clear w1
  refine (entry18_any _ _ _).mono ?_
  rintro e wa ⟨rfl, hb⟩
  have hwa := below_trans hw6 hb hw6.size
  replace hlog := hlog.keep hb
  clear hb
  go_wp2_with fail
  refine (entry18_any _ _ _).mono ?_
  rintro e wb ⟨rfl, hb⟩
  have hwb := below_trans hwa hb hwa.size
  replace hlog := hlog.keep hb
  clear hb
  go_wp2_with fail
  refine (entry18_any _ _ _).mono ?_
  rintro e wc ⟨rfl, hb⟩
  have hwc := below_trans hwb hb hwb.size
  replace hlog := hlog.keep hb
  clear hb
  go_wp2_with fail
  refine (entry18_any _ _ _).mono ?_
  rintro e wd ⟨rfl, hb⟩
  have hwd := below_trans hwc hb hwc.size
  replace hlog := hlog.keep hb
  clear hb
  go_wp2_with fail
  refine (entry18_any _ _ _).mono ?_
  rintro e we ⟨rfl, hb⟩
  have hwe := below_trans hwd hb hwd.size
  replace hlog := hlog.keep hb
  clear hb
  go_wp2_with fail
  have hlt2 := lit_logs we laterK (by decide)
  obtain ⟨wL, hwL⟩ : ∃ wL, we.alloc (.cells (flat laterK).toArray 44) = wL := ⟨_, rfl⟩
  have hszL : wL.heap.size = we.heap.size + 1 := by rw [← hwL]; simp
  have hbL : Below we.heap.size we wL := by rw [← hwL]; exact (Below.refl _ _).alloc (Nat.le_refl _) _
  have HI0 := Lib.hid (show Below w.heap.size w wL ∧ LogAt wL wL.heap.size (some ⟨gl, 0, none⟩, 5, 5) logK ∧ LogAt wL wL.heap.size (some ⟨we.heap.size, 0, none⟩, 5, 5) laterK ∧
      KeepI wL ((we.alloc (.cells (flat laterK).toArray 44)).alloc (.cells (regsv no7 (fun _ => no0)).toArray 70)) (we.heap.size + 1) 0 no7 (fun _ => no0) from by
    rw [hwL] at hlt2 ⊢
    refine ⟨below_trans hwe hbL hwe.size, hlog.keep hbL, by rw [hszL]; exact hlt2, (Below.refl _ _).alloc (Nat.le_refl _) _, ?_, by omega, fun i hi => absurd hi (by omega)⟩
    rw [← hszL]
    exact Blk.new wL _ _)
  refine abs_code (fun W => KeepI wL W (we.heap.size + 1) 0 no7 (fun _ => no0)) HI0.out.2.2.2 ?_
  intro w7 hK7
  have HW := Lib.hid (And.intro HI0.out.1 (And.intro HI0.out.2.1 HI0.out.2.2.1))
  have HK7 := Lib.hid hK7
  clear HI0 hK7 hlt2 hszL hbL hwL hlog hwa hwb hwc hwd hw6 HZ1
  generalize we.heap.size + 1 = gr at *
  generalize we.heap.size = gm at *
  clear hwe
  try clear we
  try clear wd
  try clear wc
  try clear wb
  try clear wa
  try clear w6
  go_loopg [13] n (fun k i wr => ∃ (j : Nat) (S : Slots) (sl : Sls), k = n - j ∧ j ≤ n ∧ i = .int .i64 j ∧ KeepI wL wr gr j S sl)
  case atStart => exact ⟨0, _, _, rfl, by omega, rfl, HK7.out⟩
  case round =>
    clear HK7
    obtain ⟨j, S, sl, hq, hj, rfl, hI⟩ := hrel
    have AA : Aside (gk = n - j) := hq
    clear hq
    obtain ⟨wo, rfl⟩ : ∃ wo, wo = wr := ⟨_, rfl⟩
    have HI := Lib.hid hI
    clear hI
    by_cases hlt : j < n
    · have j0 : (0 : Int) ≤ (j : Int) := by omega
      have j1 : (j : Int) < (n : Int) := by omega
      have j7 : (j : Int) < 7 := by omega
      have jv : (j : Int) < (vs.length : Int) := by have := HN.out.2.1; omega
      have jl : (j : Int) < (ls.length : Int) := by have := HN.out.2.2.1; omega
      have hwo : Below w.heap.size w wo := below_trans HW.out.1 HI.out.1 HW.out.1.size
      obtain ⟨bv, ov, x, rfl, hx, FV⟩ := HA.out.1.at_ (show j < vs.length by have := HN.out.2.1; omega)
      obtain ⟨bl, ol, y, rfl, hy, FL⟩ := HA.out.2.1.at_ (show j < ls.length by have := HN.out.2.2.1; omega)
      have hxb := HA.out.2.2.2.1 x (List.mem_of_getElem? hx.out)
      have hyb := HA.out.2.2.2.2.1 y (List.mem_of_getElem? hy.out)
      have cv := FV wo hwo
      have cl := FL wo hwo
      obtain ⟨k, hk⟩ := Int.eq_ofNat_of_zero_le (show 0 ≤ y % 6 by omega)
      have hk6 : k < 6 := by omega
      have hkt : Int.tmod y 6 = (k : Int) := by rw [Int.tmod_eq_emod_of_nonneg hyb.1, hk]
      have hmj := maj_any (n : Int) wo
      have hmr : 2 ≤ majE (n : Int) ∧ majE (n : Int) ≤ (n : Int) := by
        unfold majE
        rw [if_pos HN.out.1]
        omega
      obtain ⟨mj, hmje⟩ : ∃ mj, majE (n : Int) = mj := ⟨_, rfl⟩
      rw [hmje] at hmj hmr
      have HM := Lib.hid hmj
      have hbk := HI.out.2.1
      have HB := Lib.hid hbk
      clear hmj hmje hbk
      have hyb0 := hyb.1
      have hxb0 := hxb.1
      clear hy hx
      go_wp2_with fail
      refine HM.out.mono ?_
      rintro e w8 ⟨rfl, rfl⟩
      clear HM
      have hx3e : ∃ r3 : Nat, x % 3 = (r3 : Int) ∧ r3 < 3 := ⟨(x % 3).toNat, by omega, by omega⟩
      obtain ⟨r3, hx3, hr3⟩ := hx3e
      have hx3t : Int.tmod x 3 = (r3 : Int) := by rw [Int.tmod_eq_emod_of_nonneg hxb0, hx3]
      have hx2e : ∃ r2 : Nat, x % 2 = (r2 : Int) ∧ r2 < 2 := ⟨(x % 2).toNat, by omega, by omega⟩
      obtain ⟨r2, hx2, hr2⟩ := hx2e
      have hx2t : Int.tmod x 2 = (r2 : Int) := by rw [Int.tmod_eq_emod_of_nonneg hxb0, hx2]
      have hkk : (∃ m : Nat, ((k : Int) < 3 ∧ m = 3) ∨ (¬ (k : Int) < 3 ∧ m = k)) := by
        by_cases h : (k : Int) < 3
        · exact ⟨3, .inl ⟨h, rfl⟩⟩
        · exact ⟨k, .inr ⟨h, rfl⟩⟩
      by_cases hjm : (j : Int) < mj
      · by_cases hk3 : (k : Int) < 3
        · have HP : KeepP j ⟨0, 4, logK.take 3, 0⟩ := keep_log (by omega) (by omega)
          have HP6 : KeepP j ⟨0, 6, laterK.take 3, 0⟩ := keep_later (by omega) (by omega)
          have hs9 : LogAt wL wL.heap.size (some ⟨gl, 0, none⟩, 3, 5) (RegS.log ⟨0, 4, logK.take 3, 0⟩) := HW.out.2.1.takeTo (by show 3 ≤ 5; omega)
          have hs6 : LogAt wL wL.heap.size (some ⟨gm, 0, none⟩, 3, 5) (RegS.log ⟨0, 6, laterK.take 3, 0⟩) := HW.out.2.2.takeTo (by show 3 ≤ 5; omega)
          by_cases hr0 : r3 = 0
          · subst hr0
            go_wp2_with ((with_reducible refine at_list ?_); first | (refine wpList_store_part rfl 24 _ _ rfl gr (j * 4) (rgv ⟨0, 4, logK.take 3, 0⟩ (some ⟨gl, 0, none⟩, 3, 5)) rfl rfl _ (regsv S sl) HI.out.2.1 (by show j * 4 + 4 ≤ 28; omega) rg_info (rgv_one _ _) ?_; intro w9 B9 hb9 _; have cv9 := FV w9 (hwo.trans (hb9 _ (by have := HI.out.2.2.1; have := HW.out.1.size; omega))); have HI9 := Lib.hid (HI.out.put (by omega) HP hs9 (hb9 _ HI.out.2.2.1) B9)) | (refine wpList_store_part rfl 24 _ _ rfl gr (j * 4) (rgv ⟨0, 6, laterK.take 3, 0⟩ (some ⟨gm, 0, none⟩, 3, 5)) rfl rfl _ _ HI9.out.2.1 (by show j * 4 + 4 ≤ 28; omega) rg_info (rgv_one _ _) ?_; intro wa Ba hba _; have HIa := Lib.hid ((HI9.out.less (Nat.le_succ j)).put (by omega) HP6 hs6 (hba _ HI9.out.2.2.1) Ba)))
            go_roundg (n - (j + 1))
            case measure => have hkk := AA.out; omega
            case rel => exact ⟨j + 1, _, _, rfl, by omega, by go_num, HIa.out⟩
          · have hr0' : ((r3 : Int) == 0) = false := by rw [beq_eq_false_iff_ne]; omega
            go_wp2_with ((with_reducible refine at_list ?_); first | (refine wpList_store_part rfl 24 _ _ rfl gr (j * 4) (rgv ⟨0, 4, logK.take 3, 0⟩ (some ⟨gl, 0, none⟩, 3, 5)) rfl rfl _ (regsv S sl) HI.out.2.1 (by show j * 4 + 4 ≤ 28; omega) rg_info (rgv_one _ _) ?_; intro w9 B9 hb9 _; have cv9 := FV w9 (hwo.trans (hb9 _ (by have := HI.out.2.2.1; have := HW.out.1.size; omega))); have HI9 := Lib.hid (HI.out.put (by omega) HP hs9 (hb9 _ HI.out.2.2.1) B9)))
            go_roundg (n - (j + 1))
            case measure => have hkk := AA.out; omega
            case rel => exact ⟨j + 1, _, _, rfl, by omega, by go_num, HI9.out⟩
        · have HP : KeepP j ⟨0, 4, logK.take k, 0⟩ := keep_log (by omega) (by omega)
          have HP6 : KeepP j ⟨0, 6, laterK.take k, 0⟩ := keep_later (by omega) (by omega)
          have hs9 : LogAt wL wL.heap.size (some ⟨gl, 0, none⟩, k, 5) (RegS.log ⟨0, 4, logK.take k, 0⟩) := HW.out.2.1.takeTo (by show k ≤ 5; omega)
          have hs6 : LogAt wL wL.heap.size (some ⟨gm, 0, none⟩, k, 5) (RegS.log ⟨0, 6, laterK.take k, 0⟩) := HW.out.2.2.takeTo (by show k ≤ 5; omega)
          by_cases hr0 : r3 = 0
          · subst hr0
            go_wp2_with ((with_reducible refine at_list ?_); first | (refine wpList_store_part rfl 24 _ _ rfl gr (j * 4) (rgv ⟨0, 4, logK.take k, 0⟩ (some ⟨gl, 0, none⟩, k, 5)) rfl rfl _ (regsv S sl) HI.out.2.1 (by show j * 4 + 4 ≤ 28; omega) rg_info (rgv_one _ _) ?_; intro w9 B9 hb9 _; have cv9 := FV w9 (hwo.trans (hb9 _ (by have := HI.out.2.2.1; have := HW.out.1.size; omega))); have HI9 := Lib.hid (HI.out.put (by omega) HP hs9 (hb9 _ HI.out.2.2.1) B9)) | (refine wpList_store_part rfl 24 _ _ rfl gr (j * 4) (rgv ⟨0, 6, laterK.take k, 0⟩ (some ⟨gm, 0, none⟩, k, 5)) rfl rfl _ _ HI9.out.2.1 (by show j * 4 + 4 ≤ 28; omega) rg_info (rgv_one _ _) ?_; intro wa Ba hba _; have HIa := Lib.hid ((HI9.out.less (Nat.le_succ j)).put (by omega) HP6 hs6 (hba _ HI9.out.2.2.1) Ba)))
            go_roundg (n - (j + 1))
            case measure => have hkk := AA.out; omega
            case rel => exact ⟨j + 1, _, _, rfl, by omega, by go_num, HIa.out⟩
          · have hr0' : ((r3 : Int) == 0) = false := by rw [beq_eq_false_iff_ne]; omega
            go_wp2_with ((with_reducible refine at_list ?_); first | (refine wpList_store_part rfl 24 _ _ rfl gr (j * 4) (rgv ⟨0, 4, logK.take k, 0⟩ (some ⟨gl, 0, none⟩, k, 5)) rfl rfl _ (regsv S sl) HI.out.2.1 (by show j * 4 + 4 ≤ 28; omega) rg_info (rgv_one _ _) ?_; intro w9 B9 hb9 _; have cv9 := FV w9 (hwo.trans (hb9 _ (by have := HI.out.2.2.1; have := HW.out.1.size; omega))); have HI9 := Lib.hid (HI.out.put (by omega) HP hs9 (hb9 _ HI.out.2.2.1) B9)))
            go_roundg (n - (j + 1))
            case measure => have hkk := AA.out; omega
            case rel => exact ⟨j + 1, _, _, rfl, by omega, by go_num, HI9.out⟩
      · have hj0 : j ≠ 0 := by omega
        by_cases hr2 : r2 = 0
        · subst hr2
          have hk5 : (k : Int) ≤ 5 := by omega
          have hk0 : (0 : Int) ≤ (k : Int) := by omega
          have hr3i : (r3 : Int) ≤ 2 := by omega
          have hxb1 : x ≤ 255 := hxb.2
          have hwx : IntKind.i64.wrap x = x := IntWalk.i64_in _ (by omega)
          have hr3j : (0 : Int) ≤ (r3 : Int) := by omega
          have hwr3 : wrap64 (1 + (r3 : Int)) = 1 + (r3 : Int) := by unfold wrap64; omega
          have hwr4 : IntKind.i64.wrap (1 + (r3 : Int)) = 1 + (r3 : Int) := IntWalk.i64_in _ (by omega)
          rcases (show (k : Int) < 2 ∨ k = 2 ∨ ((2 : Int) < (k : Int) ∧ ¬ (k : Int) ≤ 2 ∧ ¬ (k : Int) < 2) by omega) with hk2 | rfl | ⟨hk2, hk2', hk2''⟩
          · have HP : KeepP j ⟨0, 1 + (r3 : Int), laterK.take k, 0⟩ := keep_low hj0 (by omega)
            have hs9 : LogAt wL wL.heap.size (some ⟨gm, 0, none⟩, k, 5) (RegS.log ⟨0, 1 + (r3 : Int), laterK.take k, 0⟩) := HW.out.2.2.takeTo (by show k ≤ 5; omega)
            have hwd := hwo.drew
            have hId := HI.out.2.1.drew
            have hkd : KeepI wL w8.drew gr j S sl := ⟨HI.out.1.drew, hId, HI.out.2.2⟩
            have HD := Lib.hid hkd
            clear hkd hId
            go_wp2_with fail
            refine wp_region_p ([(0, true), (1, true), (2, true), (3, true), (4, true), (5, true), (6, true), (7, true), (8, true), (9, true), (10, true), (11, true), (12, true), (13, true), (14, false)]) (fun w' => Below w.heap.size w w') (by kernel_rfl) rfl (by kernel_rfl) (by kernel_rfl) (hwd) rfl ?_
            intro KP RP TP hKP hTP hTP'
            simp only [List.append_eq, List.cons_append, List.nil_append, pick, nth]
            go_wp2_with (first
              | (apply SeqP.skip; rfl; simp only [Act.put, List.setIfInBounds_toArray, List.set_cons_zero, List.set_cons_succ])
              | (apply SeqP.call; rfl; rfl; (intro w2 hw; have hw := hTP _ hw; ((have cv9 := FV _ hw)); go_simp; exact ⟨rfl, rfl⟩); (intro w2 hw; have hw := hTP _ hw; ((have cv9 := FV _ hw)); (first | fail)); simp only [Act.put, List.setIfInBounds_toArray, List.set_cons_zero, List.set_cons_succ])
              | (apply SeqP.pure; rfl; (intro w2 hw; have hw := hTP _ hw; ((have cv9 := FV _ hw)); go_simp; with_reducible rfl); simp only [Act.put, List.setIfInBounds_toArray, List.set_cons_zero, List.set_cons_succ])
              | (apply SeqP.split; rfl; rfl; all_goals (intro hc; simp only [hc]; try simp only [beq_iff_eq, decide_eq_true_eq, beq_eq_false_iff_ne, decide_eq_false_iff_not, bne_iff_ne, ne_eq, Bool.not_eq_true', Bool.not_eq_false', Int.not_le, Int.not_lt, bne_eq_false_iff_eq, Bool.or_eq_true, Bool.and_eq_true, Bool.or_eq_false_iff] at hc)))
            apply SeqP.eff
            · rfl
            intro KE hKE
            refine wp_store_part 24 _ _ rfl gr (j * 4) (rgv ⟨0, 1 + (r3 : Int), laterK.take k, 0⟩ (some ⟨gm, 0, none⟩, k, 5)) rfl rfl _ (regsv S sl) HD.out.2.1 (by show j * 4 + 4 ≤ 28; omega) rg_info (rgv_one _ _) ?_
            intro w9 B9 hb9
            have HI9 := Lib.hid (HD.out.put (by omega) HP hs9 (hb9 _ HI.out.2.2.1) B9)
            have hw9 := below_trans HW.out.1 HI9.out.1 HW.out.1.size
            refine hKE _ _ (hTP' _ hw9) ?_
            clear hKE KE
            apply SeqP.nil
            refine hKP _ _ (hTP' _ (hw9)) ?_
            clear hKP hTP hTP'
            go_wp2_with fail
            go_roundg (n - (j + 1))
            case measure => have hkk := AA.out; omega
            case rel => exact ⟨j + 1, _, _, rfl, by omega, by go_num, HI9.out⟩
          · have HP : KeepP j ⟨0, 1 + (r3 : Int), laterK.take 2, 0⟩ := keep_low hj0 (by omega)
            have hs9 : LogAt wL wL.heap.size (some ⟨gm, 0, none⟩, 2, 5) (RegS.log ⟨0, 1 + (r3 : Int), laterK.take 2, 0⟩) := HW.out.2.2.takeTo (by show 2 ≤ 5; omega)
            have hwd := hwo.drew
            have hId := HI.out.2.1.drew
            have hkd : KeepI wL w8.drew gr j S sl := ⟨HI.out.1.drew, hId, HI.out.2.2⟩
            have HD := Lib.hid hkd
            clear hkd hId
            go_wp2_with fail
            refine wp_region_p ([(0, true), (1, true), (2, true), (3, true), (4, true), (5, true), (6, true), (7, true), (8, true), (9, true), (10, true), (11, true), (12, true), (13, true), (14, false)]) (fun w' => Below w.heap.size w w') (by kernel_rfl) rfl (by kernel_rfl) (by kernel_rfl) (hwd) rfl ?_
            intro KP RP TP hKP hTP hTP'
            simp only [List.append_eq, List.cons_append, List.nil_append, pick, nth]
            go_wp2_with (first
              | (apply SeqP.skip; rfl; simp only [Act.put, List.setIfInBounds_toArray, List.set_cons_zero, List.set_cons_succ])
              | (apply SeqP.call; rfl; rfl; (intro w2 hw; have hw := hTP _ hw; ((have cv9 := FV _ hw)); go_simp; exact ⟨rfl, rfl⟩); (intro w2 hw; have hw := hTP _ hw; ((have cv9 := FV _ hw)); (first | fail)); simp only [Act.put, List.setIfInBounds_toArray, List.set_cons_zero, List.set_cons_succ])
              | (apply SeqP.pure; rfl; (intro w2 hw; have hw := hTP _ hw; ((have cv9 := FV _ hw)); go_simp; with_reducible rfl); simp only [Act.put, List.setIfInBounds_toArray, List.set_cons_zero, List.set_cons_succ])
              | (apply SeqP.split; rfl; rfl; all_goals (intro hc; simp only [hc]; try simp only [beq_iff_eq, decide_eq_true_eq, beq_eq_false_iff_ne, decide_eq_false_iff_not, bne_iff_ne, ne_eq, Bool.not_eq_true', Bool.not_eq_false', Int.not_le, Int.not_lt, bne_eq_false_iff_eq, Bool.or_eq_true, Bool.and_eq_true, Bool.or_eq_false_iff] at hc)))
            apply SeqP.eff
            · rfl
            intro KE hKE
            refine wp_store_part 24 _ _ rfl gr (j * 4) (rgv ⟨0, 1 + (r3 : Int), laterK.take 2, 0⟩ (some ⟨gm, 0, none⟩, 2, 5)) rfl rfl _ (regsv S sl) HD.out.2.1 (by show j * 4 + 4 ≤ 28; omega) rg_info (rgv_one _ _) ?_
            intro w9 B9 hb9
            have HI9 := Lib.hid (HD.out.put (by omega) HP hs9 (hb9 _ HI.out.2.2.1) B9)
            have hw9 := below_trans HW.out.1 HI9.out.1 HW.out.1.size
            refine hKE _ _ (hTP' _ hw9) ?_
            clear hKE KE
            apply SeqP.nil
            refine hKP _ _ (hTP' _ (hw9)) ?_
            clear hKP hTP hTP'
            go_wp2_with fail
            go_roundg (n - (j + 1))
            case measure => have hkk := AA.out; omega
            case rel => exact ⟨j + 1, _, _, rfl, by omega, by go_num, HI9.out⟩
          · have HP : KeepP j ⟨0, 1 + (r3 : Int), laterK.take 2, 0⟩ := keep_low hj0 (by omega)
            have hs9 : LogAt wL wL.heap.size (some ⟨gm, 0, none⟩, 2, 5) (RegS.log ⟨0, 1 + (r3 : Int), laterK.take 2, 0⟩) := HW.out.2.2.takeTo (by show 2 ≤ 5; omega)
            have hwd := hwo.drew
            have hId := HI.out.2.1.drew
            have hkd : KeepI wL w8.drew gr j S sl := ⟨HI.out.1.drew, hId, HI.out.2.2⟩
            have HD := Lib.hid hkd
            clear hkd hId
            go_wp2_with fail
            refine wp_region_p ([(0, true), (1, true), (2, true), (3, true), (4, true), (5, true), (6, true), (7, true), (8, true), (9, true), (10, true), (11, true), (12, true), (13, true), (14, false)]) (fun w' => Below w.heap.size w w') (by kernel_rfl) rfl (by kernel_rfl) (by kernel_rfl) (hwd) rfl ?_
            intro KP RP TP hKP hTP hTP'
            simp only [List.append_eq, List.cons_append, List.nil_append, pick, nth]
            go_wp2_with (first
              | (apply SeqP.skip; rfl; simp only [Act.put, List.setIfInBounds_toArray, List.set_cons_zero, List.set_cons_succ])
              | (apply SeqP.call; rfl; rfl; (intro w2 hw; have hw := hTP _ hw; ((have cv9 := FV _ hw)); go_simp; exact ⟨rfl, rfl⟩); (intro w2 hw; have hw := hTP _ hw; ((have cv9 := FV _ hw)); (first | fail)); simp only [Act.put, List.setIfInBounds_toArray, List.set_cons_zero, List.set_cons_succ])
              | (apply SeqP.pure; rfl; (intro w2 hw; have hw := hTP _ hw; ((have cv9 := FV _ hw)); go_simp; with_reducible rfl); simp only [Act.put, List.setIfInBounds_toArray, List.set_cons_zero, List.set_cons_succ])
              | (apply SeqP.split; rfl; rfl; all_goals (intro hc; simp only [hc]; try simp only [beq_iff_eq, decide_eq_true_eq, beq_eq_false_iff_ne, decide_eq_false_iff_not, bne_iff_ne, ne_eq, Bool.not_eq_true', Bool.not_eq_false', Int.not_le, Int.not_lt, bne_eq_false_iff_eq, Bool.or_eq_true, Bool.and_eq_true, Bool.or_eq_false_iff] at hc)))
            apply SeqP.eff
            · rfl
            intro KE hKE
            refine wp_store_part 24 _ _ rfl gr (j * 4) (rgv ⟨0, 1 + (r3 : Int), laterK.take 2, 0⟩ (some ⟨gm, 0, none⟩, 2, 5)) rfl rfl _ (regsv S sl) HD.out.2.1 (by show j * 4 + 4 ≤ 28; omega) rg_info (rgv_one _ _) ?_
            intro w9 B9 hb9
            have HI9 := Lib.hid (HD.out.put (by omega) HP hs9 (hb9 _ HI.out.2.2.1) B9)
            have hw9 := below_trans HW.out.1 HI9.out.1 HW.out.1.size
            refine hKE _ _ (hTP' _ hw9) ?_
            clear hKE KE
            apply SeqP.nil
            refine hKP _ _ (hTP' _ (hw9)) ?_
            clear hKP hTP hTP'
            go_wp2_with fail
            go_roundg (n - (j + 1))
            case measure => have hkk := AA.out; omega
            case rel => exact ⟨j + 1, _, _, rfl, by omega, by go_num, HI9.out⟩
        · have hr2' : ((r2 : Int) == 0) = false := by rw [beq_eq_false_iff_ne]; omega
          by_cases hk3 : (k : Int) < 3
          · have HP : KeepP j ⟨0, 6, laterK.take 3, 0⟩ := keep_later (by omega) (by omega)
            have hs9 : LogAt wL wL.heap.size (some ⟨gm, 0, none⟩, 3, 5) (RegS.log ⟨0, 6, laterK.take 3, 0⟩) := HW.out.2.2.takeTo (by show 3 ≤ 5; omega)
            go_wp2_with ((with_reducible refine at_list ?_); first | (refine wpList_store_part rfl 24 _ _ rfl gr (j * 4) (rgv ⟨0, 6, laterK.take 3, 0⟩ (some ⟨gm, 0, none⟩, 3, 5)) rfl rfl _ (regsv S sl) HI.out.2.1 (by show j * 4 + 4 ≤ 28; omega) rg_info (rgv_one _ _) ?_; intro w9 B9 hb9 _; have HI9 := Lib.hid (HI.out.put (by omega) HP hs9 (hb9 _ HI.out.2.2.1) B9)))
            go_roundg (n - (j + 1))
            case measure => have hkk := AA.out; omega
            case rel => exact ⟨j + 1, _, _, rfl, by omega, by go_num, HI9.out⟩
          · have HP : KeepP j ⟨0, 6, laterK.take k, 0⟩ := keep_later (by omega) (by omega)
            have hs9 : LogAt wL wL.heap.size (some ⟨gm, 0, none⟩, k, 5) (RegS.log ⟨0, 6, laterK.take k, 0⟩) := HW.out.2.2.takeTo (by show k ≤ 5; omega)
            go_wp2_with ((with_reducible refine at_list ?_); first | (refine wpList_store_part rfl 24 _ _ rfl gr (j * 4) (rgv ⟨0, 6, laterK.take k, 0⟩ (some ⟨gm, 0, none⟩, k, 5)) rfl rfl _ (regsv S sl) HI.out.2.1 (by show j * 4 + 4 ≤ 28; omega) rg_info (rgv_one _ _) ?_; intro w9 B9 hb9 _; have HI9 := Lib.hid (HI.out.put (by omega) HP hs9 (hb9 _ HI.out.2.2.1) B9)))
            go_roundg (n - (j + 1))
            case measure => have hkk := AA.out; omega
            case rel => exact ⟨j + 1, _, _, rfl, by omega, by go_num, HI9.out⟩
    · obtain rfl : j = n := by omega
      have j1 : ¬ (j : Int) < (j : Int) := by omega
      obtain ⟨ep, hep, hof, he1, he2⟩ := next_keep HN.out.1
      have hne := next_any 10 0 (j : Int) wo
      rw [hep] at hne
      obtain ⟨r0, hS0, hP0, hL0⟩ := HI.out.2.2.2 0 (by omega)
      obtain ⟨hok, hmay⟩ := new_keep HN.out.1 hof he1 he2 hP0
      have hr00 : r0.prom = 0 := hP0.1
      have hr0c : r0.com = 0 := hP0.2.1
      have hsv : slotv S sl 0 = [.int .i64 0, .int .i64 r0.view, .slice (sl 0).1 (sl 0).2.1 (sl 0).2.2, .int .i64 0] := by
        unfold slotv regOf
        rw [hS0]
        show rgv r0 (sl 0) = _
        unfold rgv
        rw [hr00, hr0c]
      have hp0 : ∀ i, i < ([.int .i64 0, .int .i64 r0.view, .slice (sl 0).1 (sl 0).2.1 (sl 0).2.2, .int .i64 0] : List Value).length → (regsv S sl)[0 + i]? = ([.int .i64 0, .int .i64 r0.view, .slice (sl 0).1 (sl 0).2.1 (sl 0).2.2, .int .i64 0] : List Value)[i]? := by
        have := regsv_slot S sl (show 0 < 7 by omega)
        rw [hsv] at this
        intro i hi
        have h := this i hi
        rw [Nat.zero_mul] at h
        exact h
      have HE := Lib.hid (And.intro hep (And.intro hof (And.intro he1 (And.intro he2 (And.intro hok hmay)))))
      have HR := Lib.hid (And.intro hS0 (And.intro hP0 hL0))
      have HNE := Lib.hid hne
      have HP0 := Lib.hid hp0
      clear hep hof he1 he2 hok hmay hne hS0 hP0 hL0 hr00 hr0c hsv hp0
      go_wp2_with fail
      refine HNE.out.mono ?_
      rintro e w8 ⟨rfl, rfl⟩
      clear HNE
      have lgr := HI.out.2.1.lt
      go_wp2_with ((with_reducible refine at_list ?_); refine wpList_load_part rfl 24 _ rfl gr 0 rfl _ _ _ HI.out.2.1 HP0.out _ Try.underlying24 rfl rg_info ?_)
      have hal : Below w8.heap.size w8 (w8.alloc (.cells (rgv ⟨ep, r0.view, r0.log, 0⟩ (sl 0)).toArray 24)) := (Below.refl _ _).alloc (Nat.le_refl _) _
      have HQ := Lib.hid (show Below wL.heap.size wL (w8.alloc (.cells (rgv ⟨ep, r0.view, r0.log, 0⟩ (sl 0)).toArray 24)) ∧ Blk (w8.alloc (.cells (rgv ⟨ep, r0.view, r0.log, 0⟩ (sl 0)).toArray 24)) gr 70 (regsv S sl) ∧ Blk (w8.alloc (.cells (rgv ⟨ep, r0.view, r0.log, 0⟩ (sl 0)).toArray 24)) w8.heap.size 24 (rgv ⟨ep, r0.view, r0.log, 0⟩ (sl 0)) from
        ⟨below_trans HI.out.1 hal HI.out.1.size, HI.out.2.1.keep hal, Blk.new w8 _ _⟩)
      clear hal lgr
      have HG := Lib.hid HI.out.2.2
      clear HI
      generalize w8.heap.size = gw at *
      refine abs_calls (fun W => Below wL.heap.size wL W ∧ Blk W gr 70 (regsv S sl) ∧ Blk W gw 24 (rgv ⟨ep, r0.view, r0.log, 0⟩ (sl 0))) HQ.out ?_
      intro w9 h9
      have H9 := Lib.hid h9
      clear HQ h9
      try clear w8
      refine (new_any ⟨0, ep, 0, (j : Int), 5⟩ ⟨ep, r0.view, r0.log, 0⟩ (sl 0) w9 (HR.out.2.2.keep H9.out.1) (by show r0.log.length ≤ 2000; have := HR.out.2.1.2.2.1; omega)).mono ?_
      rintro e wa (⟨_, g, rfl, hgw, hB, hba⟩ | ⟨hno, _⟩)
      case inr => exact absurd HE.out.2.2.2.2.1 hno
      have Ha := Lib.hid (show Below wL.heap.size wL wa ∧ Blk wa gr 70 (regsv S sl) ∧ Blk wa gw 24 (rgv ⟨ep, r0.view, r0.log, 0⟩ (sl 0)) ∧ BalAt wa wL.heap.size g ⟨0, ep, 0, (j : Int), 5⟩ (put7 no7 0 ⟨ep, r0.view, r0.log, 0⟩) ∧ wL.heap.size ≤ g from
        ⟨below_trans H9.out.1 hba H9.out.1.size, H9.out.2.1.keep hba, H9.out.2.2.keep hba, hB.base H9.out.1.size, Nat.le_trans H9.out.1.size hgw⟩)
      clear hba hB hgw H9
      go_wp2_with ((with_reducible refine at_list ?_); first | refine wpList_load_blk_g 24 _ rfl rfl _ rfl _ _ _ (Ha.out.2.2.1) Try.underlying24 rfl rg_info ?_)
      refine (check15_any ⟨ep, r0.view, r0.log, 0⟩ (sl 0) wa (HR.out.2.2.keep Ha.out.1)).mono ?_
      rintro e wb ⟨rfl, hbb⟩
      rw [HE.out.2.2.2.2.2]
      have Hb := Lib.hid (show Below wL.heap.size wL wb ∧ Blk wb gr 70 (regsv S sl) ∧ BalAt wb wL.heap.size g ⟨0, ep, 0, (j : Int), 5⟩ (put7 no7 0 ⟨ep, r0.view, r0.log, 0⟩) ∧ wL.heap.size ≤ g from
        ⟨below_trans Ha.out.1 hbb Ha.out.1.size, Ha.out.2.1.keep hbb, Ha.out.2.2.2.1.keep hbb, Ha.out.2.2.2.2⟩)
      have HT := Lib.hid (keepS_new HR.out.2.1 ep)
      clear hbb Ha
      go_wp2_with fail
      go_loopg [20] ws.length (fun q i wr => ∃ (t : Nat) (T : Slots), q = ws.length - t ∧ t ≤ ws.length ∧ i = .int .i64 t ∧ (Below wL.heap.size wL wr ∧ Blk wr gr 70 (regsv S sl) ∧ BalAt wr wL.heap.size g ⟨0, ep, 0, (j : Int), 5⟩ T ∧ wL.heap.size ≤ g) ∧ KeepS T)
      case atStart => exact ⟨0, _, rfl, by omega, rfl, Hb.out, HT.out⟩
      case round =>
        clear Hb HT AA
        obtain ⟨t, T, hq, ht, rfl, hI, hT⟩ := hrel
        have AA : Aside (gk = ws.length - t) := hq
        have HI := Lib.hid (And.intro hI hT)
        clear hq hI hT
        obtain ⟨wo, rfl⟩ : ∃ wo, wo = wr := ⟨_, rfl⟩
        by_cases hlt : t < ws.length
        · have t0 : (0 : Int) ≤ (t : Int) := by omega
          have t1 : (t : Int) < (ws.length : Int) := by omega
          have t60 : ws.length ≤ 60 := HN.out.2.2.2
          have hwo : Below w.heap.size w wo := below_trans HW.out.1 HI.out.1.1 HW.out.1.size
          obtain ⟨bw, ow, x, rfl, hx, FW⟩ := HA.out.2.2.1.at_ hlt
          have hxb := HA.out.2.2.2.2.2 x (List.mem_of_getElem? hx.out)
          have hxb0 := hxb.1
          have hxb1 := hxb.2
          have cw := FW wo hwo
          obtain ⟨K, hK⟩ := Int.eq_ofNat_of_zero_le (show 0 ≤ x % (j : Int) from Int.emod_nonneg x (by omega))
          have hKn : K < j := by have := Int.emod_lt_of_pos x (show 0 < (j : Int) by omega); omega
          have hKt : Int.tmod x (j : Int) = (K : Int) := by rw [Int.tmod_eq_emod_of_nonneg hxb0, hK]
          have hwx : IntKind.i64.wrap x = x := IntWalk.i64_in _ (by omega)
          have hjz : ¬ (j : Int) = 0 := by omega
          have hjz' : ((j : Int) == 0) = false := by rw [beq_eq_false_iff_ne]; omega
          have k0 : (0 : Int) ≤ (K : Int) := by omega
          have k7 : (K : Int) < 7 := by omega
          obtain ⟨r, hSK, hPK, hLK⟩ := HG.out.2 K hKn
          have hKr : regOf S K = r := by unfold regOf; rw [hSK]; rfl
          have FR : ∀ w', Blk w' gr 70 (regsv S sl) → w'.cell? ⟨gr, K * 4 + 1, none⟩ = some (.int .i64 r.view) ∧ w'.cell? ⟨gr, K * 4 + 2, none⟩ = some (.slice (sl K).1 (sl K).2.1 (sl K).2.2) ∧ w'.cell? ⟨gr, K * 4 + 3, none⟩ = some (.int .i64 r.com) := fun w' h => by
            have hs := regsv_slot S sl (show K < 7 by omega)
            have e : slotv S sl K = rgv r (sl K) := by unfold slotv; rw [hKr]
            rw [e] at hs
            refine ⟨?_, ?_, ?_⟩
            · rw [h.cell, hs 1 (by show 1 < 4; omega)]; rfl
            · rw [h.cell, hs 2 (by show 2 < 4; omega)]; rfl
            · rw [h.cell, hs 3 (by show 3 < 4; omega)]; rfl
          have HPK := Lib.hid (And.intro hPK hLK)
          have hbd := HI.out.1.2.1.drew
          have hdr : Below wo.heap.size wo wo.drew := (Below.refl _ _).drew
          have HD := Lib.hid (show (Below wL.heap.size wL wo.drew ∧ Blk wo.drew gr 70 (regsv S sl) ∧ BalAt wo.drew wL.heap.size g ⟨0, ep, 0, (j : Int), 5⟩ T ∧ wL.heap.size ≤ g) ∧ KeepS T from ⟨⟨HI.out.1.1.drew, hbd, HI.out.1.2.2.1.keep hdr, HI.out.1.2.2.2⟩, HI.out.2⟩)
          clear hSK hPK hLK hKr hbd hdr hx
          go_wp2_with fail
          refine wp_region_p ([(0, true), (1, true), (2, true), (3, true), (4, true), (5, true), (6, true), (7, true), (8, true), (9, true), (10, true), (11, true), (12, true), (13, true), (14, true), (15, true), (16, false)]) (fun w' => Blk w' gr 70 (regsv S sl)) (by kernel_rfl) rfl (by kernel_rfl) (by kernel_rfl) (HD.out.1.2.1) rfl ?_
          intro KP RP TP hKP hTP hTP'
          simp only [List.append_eq, List.cons_append, List.nil_append, pick, nth]
          go_wp2_with (first
            | (apply SeqP.skip; rfl; simp only [Act.put, List.setIfInBounds_toArray, List.set_cons_zero, List.set_cons_succ])
            | (apply SeqP.call; rfl; rfl; (intro w2 hw; have hw := hTP _ hw; ((obtain ⟨q1, q2, q3⟩ := FR _ hw)); go_simp; exact ⟨rfl, rfl⟩); (intro w2 hw; have hw := hTP _ hw; ((obtain ⟨q1, q2, q3⟩ := FR _ hw)); (first | fail)); simp only [Act.put, List.setIfInBounds_toArray, List.set_cons_zero, List.set_cons_succ])
            | (apply SeqP.pure; rfl; (intro w2 hw; have hw := hTP _ hw; ((obtain ⟨q1, q2, q3⟩ := FR _ hw)); go_simp; with_reducible rfl); simp only [Act.put, List.setIfInBounds_toArray, List.set_cons_zero, List.set_cons_succ])
            | (apply SeqP.split; rfl; rfl; all_goals (intro hc; simp only [hc]; try simp only [beq_iff_eq, decide_eq_true_eq, beq_eq_false_iff_ne, decide_eq_false_iff_not, bne_iff_ne, ne_eq, Bool.not_eq_true', Bool.not_eq_false', Int.not_le, Int.not_lt, bne_eq_false_iff_eq, Bool.or_eq_true, Bool.and_eq_true, Bool.or_eq_false_iff] at hc)))
          apply SeqP.eff
          · rfl
          intro KE hKE
          go_wp2_with fail
          refine (add_any wL.heap.size g ⟨0, ep, 0, (j : Int), 5⟩ T ⟨⟨2, (K : Int), 0, 0, ep, r.view, 0, r.com, 5, r.log⟩, sl K, (0, 0, 0, 0, 0), (0, 0, 0)⟩ wo.drew HD.out.1.2.2.1 HD.out.1.1.size HN.out.1 (HPK.out.2.keep HD.out.1.1) (by show r.log.length ≤ 2000; have := HPK.out.1.2.2.1; omega)).mono ?_
          rintro e wc ⟨rfl, hBc, hKc⟩
          have HC := Lib.hid (show (Below wL.heap.size wL wc ∧ Blk wc gr 70 (regsv S sl) ∧ BalAt wc wL.heap.size g ⟨0, ep, 0, (j : Int), 5⟩ (addS ⟨0, ep, 0, (j : Int), 5⟩ T ⟨2, (K : Int), 0, 0, ep, r.view, 0, r.com, 5, r.log⟩) ∧ wL.heap.size ≤ g) ∧ KeepS (addS ⟨0, ep, 0, (j : Int), 5⟩ T ⟨2, (K : Int), 0, 0, ep, r.view, 0, r.com, 5, r.log⟩) from by
            obtain ⟨⟨q1, q2, q3, q4⟩, q5⟩ := HD.out
            obtain ⟨bs, hbs⟩ := bal_blk q3
            exact ⟨⟨q1.trans (hKc.below (B := wL.heap.size) (fun k e => by cases e; exact q4) (fun k e => by cases e) q1.size), hKc.blk q2 (blk_ne q2 hbs (by decide)) (by simp), hBc, q4⟩, keepS_add q5 HPK.out.1.2.2.2.1 (by show r.log.length ≤ 64; have := HPK.out.1.2.2.1; omega)⟩)
          refine hKE _ _ (hTP' _ HC.out.1.2.1) ?_
          clear hKE KE hBc hKc HD
          go_wp2_with (first
            | (apply SeqP.skip; rfl; simp only [Act.put, List.setIfInBounds_toArray, List.set_cons_zero, List.set_cons_succ])
            | (apply SeqP.call; rfl; rfl; (intro w2 hw; have hw := hTP _ hw; (skip); go_simp; exact ⟨rfl, rfl⟩); (intro w2 hw; have hw := hTP _ hw; (skip); (first | fail)); simp only [Act.put, List.setIfInBounds_toArray, List.set_cons_zero, List.set_cons_succ])
            | (apply SeqP.pure; rfl; (intro w2 hw; have hw := hTP _ hw; (skip); go_simp; with_reducible rfl); simp only [Act.put, List.setIfInBounds_toArray, List.set_cons_zero, List.set_cons_succ])
            | (apply SeqP.split; rfl; rfl; all_goals (intro hc; simp only [hc]; try simp only [beq_iff_eq, decide_eq_true_eq, beq_eq_false_iff_ne, decide_eq_false_iff_not, bne_iff_ne, ne_eq, Bool.not_eq_true', Bool.not_eq_false', Int.not_le, Int.not_lt, bne_eq_false_iff_eq, Bool.or_eq_true, Bool.and_eq_true, Bool.or_eq_false_iff] at hc)))
          apply SeqP.nil
          refine hKP _ _ (hTP' _ (HC.out.1.2.1)) ?_
          clear hKP hTP hTP'
          clear FR FW
          go_wp2_with fail
          go_roundg (ws.length - (t + 1))
          case measure => have hkk := AA.out; omega
          case rel => exact ⟨t + 1, _, rfl, by omega, by go_num, HC.out.1, HC.out.2⟩
        · obtain rfl : t = ws.length := by omega
          have t1 : ¬ (ws.length : Int) < (ws.length : Int) := by omega
          go_wp2_with fail
          refine (chosen_any wL.heap.size g ⟨0, ep, 0, (j : Int), 5⟩ T wo HI.out.1.2.2.1 HN.out.1 (keepS_len HI.out.2)).mono ?_
          rintro e wc ⟨vc, rfl, hRc, hbc⟩
          obtain ⟨sc, rfl, hLc⟩ := hRc.log
          have HC := Lib.hid (show (Below wL.heap.size wL wc ∧ BalAt wc wL.heap.size g ⟨0, ep, 0, (j : Int), 5⟩ T) ∧ LogAt wc wc.heap.size sc (chosenS ⟨0, ep, 0, (j : Int), 5⟩ T).1 from ⟨⟨below_trans HI.out.1.1 hbc HI.out.1.1.size, HI.out.1.2.2.1.keep hbc⟩, hLc⟩)
          have HT := Lib.hid HI.out.2
          clear hRc hbc hLc HI
          obtain ⟨slc, hbkc, _⟩ := HC.out.1.2
          have hjn : (j : Int) ≠ 0 := by omega
          have hwn := won_any g ⟨0, ep, 0, (j : Int), 5⟩ T slc wc hbkc hjn
          clear hbkc
          cases hw : wonS ⟨0, ep, 0, (j : Int), 5⟩ T with
          | false =>
            rw [hw] at hwn
            have hch : chosenS ⟨0, ep, 0, (j : Int), 5⟩ T = ([], 0, 4) := by
              unfold chosenS
              rw [hw]
              rfl
            have HWN := Lib.hid hwn
            rw [hch]
            clear hw hwn hch
            go_wp2_with fail
            refine HWN.out.mono ?_
            rintro e wd ⟨rfl, hbd⟩
            have hwd := below_trans HC.out.1.1 hbd HC.out.1.1.size
            clear hbd
            go_wp2_with fail
            refine (lives18_any _).mono ?_
            rintro e we ⟨rfl, hbe⟩
            have HE2 := Lib.hid (below_trans HW.out.1 (below_trans hwd hbe hwd.size) HW.out.1.size)
            clear hbe hwd
            go_wp2_with fail
            go_ret
            exact ⟨rfl, HE2.out⟩
          | true =>
            rw [hw] at hwn
            have hch : chosenS ⟨0, ep, 0, (j : Int), 5⟩ T = (bestLog T, comTo (bestLog T).length 0 (listTo T 7), 0) := by
              unfold chosenS
              rw [hw]
              rfl
            have hlc := HC.out.2
            rw [hch] at hlc ⊢
            have HLC := Lib.hid hlc
            have HWN := Lib.hid hwn
            clear hw hwn hch hlc
            go_wp2_with fail
            refine HWN.out.mono ?_
            rintro e wd ⟨rfl, hbd⟩
            have HD := Lib.hid (And.intro (below_trans HC.out.1.1 hbd HC.out.1.1.size) (HLC.out.keep hbd))
            clear hbd HWN HC HLC
            have hpf := prefix_any sureK (bestLog T) (some ⟨gl, 0, none⟩) sc.1 5 sc.2.2 wd (HW.out.2.1.takeTo (m := 3) (by decide) |>.keep HD.out.1).2.2.2 HD.out.2.2.2.2 (by decide) (Nat.le_trans HD.out.2.2.1 HD.out.2.2.2.1) HD.out.2.2.1 HD.out.2.2.2.1
            rw [decide_eq_true (keepS_best HT.out), ← HD.out.2.1] at hpf
            have HPF := Lib.hid hpf
            clear hpf
            go_wp2_with fail
            refine HPF.out.mono ?_
            rintro e we ⟨rfl, hbe⟩
            have hwe := below_trans HD.out.1 hbe HD.out.1.size
            clear hbe
            go_wp2_with fail
            refine (lives18_any _).mono ?_
            rintro e wf ⟨rfl, hbf⟩
            have HE2 := Lib.hid (below_trans HW.out.1 (below_trans hwe hbf hwe.size) HW.out.1.size)
            clear hbf hwe
            go_wp2_with fail
            go_ret
            exact ⟨rfl, HE2.out⟩
end Go.Proofs.Ytbicefilfhcgoaa

set_option linter.unusedSimpArgs false
set_option linter.unusedVariables false
set_option maxRecDepth 100000
namespace Go.Sq
open Go Go.ChangeShapes Go.WideShapes Go.RowKit Go.Deep
section
variable {H : Type} {enc : TypeId × Value → H} {P : Program} {w : World} {base : Nat} {spare : Nat → Bool} {held : Bool}
theorem open_rows_in {k : Nat} {t e : TypeId} {C : Nat} {v : Value} {y : DataW H × List MemPlace} (ht : P.underlying t = some (.slice e))
    (hC : P.cellsOf e = C) (hpos : 0 < C) (h : DataW.trod enc P w base spare held k t [v] = some y) :
    ∃ (a : Option Addr) (len cap : Nat), v = .slice a len cap ∧ len ≤ cap ∧ cap ≤ maxLen ∧ (0 < len → ∃ b off, a = some ⟨b, off, none⟩ ∧ b < w.heap.size ∧ ∀ i, i < len →
      ∃ (cs : List Value) (n : Nat) (y : DataW H × List MemPlace), cs.length = C ∧ (∀ k, k < C → w.cell? ⟨b, off + i * C + k, none⟩ = cs[k]?) ∧ DataW.trod enc P w base spare held n e cs = some y) := by
  rcases open_slice ht h with ⟨hcs, _⟩ | ⟨a, l, c, m, n, D, Pl, hcs, _, hl, hm, hmm, _, hi⟩
  · cases hcs
    exact ⟨none, 0, 0, rfl, Nat.le_refl _, by simp [maxLen], fun h => absurd h (by omega)⟩
  · cases hcs
    refine ⟨some a, l, c, rfl, hl, hm, fun hlen => ?_⟩
    obtain ⟨b, off, rfl, hbl⟩ : ∃ b off, a = ⟨b, off, none⟩ ∧ b < w.heap.size := by
      obtain ⟨cs', hc, _⟩ := hi 0 (by rw [hmm]; split <;> omega)
      rw [hC] at hc
      obtain ⟨_, hcl, hat⟩ := World.cells?_some hc
      have h0 := hat 0 hpos
      rw [List.getElem?_eq_getElem (show 0 < cs'.length by omega)] at h0
      have hsp : a.spot = none := by simpa [Addr.add] using World.cell?_spot h0
      have hbl := World.block_lt_of_cell? _ _ h0
      rw [add_block, add_block] at hbl
      obtain ⟨b, off, spot⟩ := a
      obtain rfl : spot = none := hsp
      exact ⟨b, off, rfl, hbl⟩
    refine ⟨b, off, rfl, hbl, fun i hil => ?_⟩
    obtain ⟨cs', hc, ht'⟩ := hi i (by rw [hmm]; split <;> omega)
    rw [hC] at hc
    obtain ⟨_, hcl, hat⟩ := World.cells?_some hc
    refine ⟨cs', n, _, hcl, fun k hk => ?_, ht'⟩
    have h3 := hat k hk
    rw [add_none, add_none] at h3
    exact h3
end
end Go.Sq

set_option linter.unusedSimpArgs false
set_option linter.unusedVariables false
set_option maxRecDepth 100000
namespace Go.Proofs.Ytbicefilfhcgoaa
open Go Go.ChangeShapes Go.WideShapes Go.RowKit Go.Deep Go.Sq Go.Wd
section
variable {H : Type} {enc : TypeId × Value → H} {w : World} {base : Nat} {spare : Nat → Bool} {held : Bool}
theorem open_u8s {k : Nat} {v : Value} {y : DataW H × List MemPlace} (h : DataW.trod enc Try.prog w base spare held k 38 [v] = some y) :
    ∃ (A : Option Addr) (l : List Int) (c : Nat), v = .slice A l.length c ∧ l.length ≤ c ∧ c ≤ 9223372036854775807 ∧ Nums w w.heap.size A .u8 l ∧ ∀ x ∈ l, (Lit.int .u8 x).wf = true := by
  obtain ⟨A, len, cap, rfl, h1, h2, h3⟩ := open_rows_in Try.underlying38 (C := 1) (by kernel_rfl) (by omega) h
  have h2' : cap ≤ 9223372036854775807 := by simp only [maxLen] at h2; omega
  rcases Nat.eq_zero_or_pos len with h0 | h0
  · subst h0
    exact ⟨A, [], cap, rfl, h1, h2', fun h => absurd h (by simp), by simp⟩
  · obtain ⟨b, off, rfl, hb, hrow⟩ := h3 h0
    obtain ⟨l, hl, hp⟩ := list_of (p := fun i x => w.cell? ⟨b, off + i, none⟩ = some (.int .u8 x) ∧ (Lit.int .u8 x).wf = true) len (fun i hi => by
      obtain ⟨cs, n, y, hcl, hcell, ht⟩ := hrow i hi
      obtain ⟨z, hz, _, hw⟩ := DataW.trod_int Try.underlying5 ht
      refine ⟨z, ?_, hw⟩
      have := hcell 0 (by omega)
      rw [hz] at this
      simpa using this)
    subst hl
    refine ⟨_, l, cap, rfl, h1, h2', fun _ => ⟨b, off, rfl, hb, fun i e he => (hp i e he).1⟩, fun e he => ?_⟩
    obtain ⟨i, hi⟩ := List.getElem?_of_mem he
    exact (hp i e hi).2
theorem open_two {r : Reach} {b0 : Nat} {v : Value} {d : DataW H} {p : List MemPlace} (hv : Value.okWide Try.prog w r b0 69 v) (h : DataW.Trod enc Try.prog w base spare held 69 v d p) :
    ∃ (A1 A2 : Option Addr) (l1 l2 : List Int) (c1 c2 : Nat), v = .agg #[.slice A1 l1.length c1, .slice A2 l2.length c2] ∧ (l1.length ≤ c1 ∧ c1 ≤ 9223372036854775807 ∧ Nums w w.heap.size A1 .u8 l1 ∧ ∀ x ∈ l1, (Lit.int .u8 x).wf = true) ∧
      (l2.length ≤ c2 ∧ c2 ≤ 9223372036854775807 ∧ Nums w w.heap.size A2 .u8 l2 ∧ ∀ x ∈ l2, (Lit.int .u8 x).wf = true) := by
  have hC : Try.prog.cellsOf 69 = 2 := by kernel_rfl
  have hC1 : Try.prog.cellsOf 38 = 1 := by kernel_rfl
  obtain ⟨l, m, rfl, hl, hf⟩ := open_array Try.underlying69 hv h
  rw [hC] at hl
  rw [hC1] at hf
  obtain ⟨x0, x1, rfl⟩ := len2 hl
  obtain ⟨y0, h0⟩ := hf 0 (by omega)
  obtain ⟨y1, h1⟩ := hf 1 (by omega)
  simp only [Nat.zero_mul, Nat.one_mul, List.drop_zero, List.drop_succ_cons, List.take_succ_cons, List.take_zero] at h0 h1
  obtain ⟨A1, l1, c1, rfl, p1⟩ := open_u8s h0
  obtain ⟨A2, l2, c2, rfl, p2⟩ := open_u8s h1
  exact ⟨A1, A2, l1, l2, c1, c2, rfl, p1, p2⟩
end
end Go.Proofs.Ytbicefilfhcgoaa
