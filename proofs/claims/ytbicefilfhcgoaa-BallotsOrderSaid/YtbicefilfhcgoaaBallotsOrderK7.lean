/-
  The walk over the statement BallotsPlay.
  The walks over the functions of a ballot that is none.
  The walk over the statement BallotsOrder.
  A slice within a struct that comes in.
  Registers and records that come in.
  Structs of numbers that come in, of any number of fields.
  Slices of structs that come in, whatever struct.
  Mail that comes in, and what a ballot begins with.
-/
import Derived.Test.YtbicefilfhcgoaaBallotsOrderK1
import Derived.Test.YtbicefilfhcgoaaBallotsOrderK2
import Derived.Test.YtbicefilfhcgoaaBallotsOrderK3
import Derived.Test.YtbicefilfhcgoaaBallotsOrderK4
import Derived.Test.YtbicefilfhcgoaaBallotsOrderK5
import Derived.Test.YtbicefilfhcgoaaBallotsOrderK6
set_option linter.unusedSimpArgs false
set_option linter.unusedVariables false
set_option maxRecDepth 100000
namespace Go.Proofs.Ytbicefilfhcgoaa
open Go Go.RowKit Go.Sq Go.Wd Go.Arch

theorem begin_info : (Try.prog.info? 53).map (·.size) = some 9 := by kernel_rfl
theorem begin_reg (b : BegS) (own : RegS) (s : SlcE) : ∀ j, j < (rgv own s).length → (begcells' b own s)[5 + j]? = (rgv own s)[j]? := fun j hj => by
  have hj : j < 4 := hj
  obtain rfl | rfl | rfl | rfl : j = 0 ∨ j = 1 ∨ j = 2 ∨ j = 3 := by omega
  all_goals rfl
theorem samelog_of (s t : SlcE) (l : List Ent) (w : World) (hs : LogAt w w.heap.size s l) (ht : LogAt w w.heap.size t l) :
    Calls Try.prog 23 #[.slice s.1 s.2.1 s.2.2, .slice t.1 t.2.1 t.2.2] w fun e w' => e = .returned (.bool true) ∧ Below w.heap.size w w' :=
  same_yes l l hs.1 ht.1 rfl s.1 t.1 s.2.2 t.2.2 w hs.2.2.2 ht.2.2.2 (Nat.le_trans hs.2.1 hs.2.2.1) (Nat.le_trans ht.2.1 ht.2.2.1)
theorem mergeAC {G : Prop} (Inv : Option Addr → Nat → World → Prop) (K : Act → World → Prop) {F : Option Addr → Nat → Act} (h1 : (∀ A c w', Inv A c w' → K (F A c) w') → G) (h2 : ∀ A c w', Inv A c w' → K (F A c) w') : G := h1 h2

theorem bal_blk {w : World} {B g : Nat} {b : BegS} {S : Slots} (h : BalAt w B g b S) : ∃ cs, Blk w g 85 cs := by
  obtain ⟨sl, hb, _⟩ := h
  exact ⟨_, hb⟩
theorem blk_ne {w : World} {k q : Nat} {T U : TypeId} {cs ds : List Value} (h : Blk w k T cs) (h' : Blk w q U ds) (hT : T ≠ U) : some k ≠ some q := fun e => by
  obtain rfl := Option.some.inj e
  exact blk_not h hT _ h'
/-- All that lies there: the ballot, the document's one, what they began with. -/
def PlayI (w wr : World) (g h gb : Nat) (b : BegS) (own : RegS) (s : SlcE) (S : Slots) (L : List OneV) (v : Value) : Prop :=
  Below w.heap.size w wr ∧ BalAt wr w.heap.size g b S ∧ RefAt wr w.heap.size h b L v ∧ Blk wr gb 53 (begcells' b own s) ∧ w.heap.size ≤ g ∧ w.heap.size ≤ h ∧ g ≠ gb ∧ h ≠ gb
def PlayP (w : World) (S : Slots) (L : List OneV) : Prop := RelB S (prL L) ∧ (∀ x ∈ L, LogAt w w.heap.size x.s x.r.log) ∧ ∀ i, i < 7 → (regOf S i).log.length ≤ 64
section
variable {w wr wr' : World} {g h gb : Nat} {b : BegS} {own : RegS} {s : SlcE} {S : Slots} {L : List OneV} {v : Value}
theorem PlayI.keep (H : PlayI w wr g h gb b own s S L v) (hb : Below wr.heap.size wr wr') : PlayI w wr' g h gb b own s S L v := by
  obtain ⟨h1, h2, h3, h4, h5⟩ := H
  exact ⟨below_trans h1 hb h1.size, h2.keep hb, h3.keep hb, h4.keep hb, h5⟩
theorem PlayI.gh (H : PlayI w wr g h gb b own s S L v) : g ≠ h := by
  obtain ⟨_, ⟨sl, hb, _⟩, ⟨hr, _⟩, _⟩ := H
  intro e
  subst e
  exact blk_not hb (show 85 ≠ 82 by decide) _ hr
theorem mayR_len {r : RegS} (h : mayR r = true) : r.log.length ≤ 64 := ((okLog_iff _ _).1 ((mayR_iff r).1 h).2.1).1
theorem regs_put {k : Nat} {r : RegS} (hl : ∀ i, i < 7 → (regOf S i).log.length ≤ 64) (hr : r.log.length ≤ 64) : ∀ i, i < 7 → (regOf (put7 S k r) i).log.length ≤ 64 := fun i hi => by
  by_cases e : i = k
  · subst e
    rw [regOf_at]
    exact hr
  · rw [regOf_far _ _ e]
    exact hl i hi
/-- Behind the ballot's Add. -/
theorem PlayI.add {x : MailV} {e : Ending} (H : PlayI w wr g h gb b own s S L v) (hA : AddPost b S g w.heap.size x.m wr e wr') : e = .returned (.bool (decide (addOk b S x.m))) ∧ PlayI w wr' g h gb b own s (addS b S x.m) L v := by
  obtain ⟨he, hB, hK⟩ := hA
  have hgh := H.gh
  obtain ⟨h1, ⟨sl, hb, _⟩, h3, h4, h5, h6, h7, h8⟩ := H
  refine ⟨he, h1.trans (hK.below (B := w.heap.size) (fun k e => by cases e; exact h5) (fun k e => by cases e) h1.size), hB, h3.kept hK (fun e => hgh (Option.some.inj e).symm) (by simp) (fun q e => by cases e; exact blk_not hb (by decide)) (fun q e => by cases e), hK.blk h4 (fun e => h7 (Option.some.inj e).symm) (by simp), h5, h6, h7, h8⟩
/-- Behind the document's Add. -/
theorem PlayI.radd {x : MailV} {e : Ending} (H : PlayI w wr g h gb b own s (addS b S x.m) L v) (hP : PlayP w S L) (hx : LogAt w w.heap.size x.es x.m.ents) (hn : sitesE b.n = true) (hA : RAddPost b L v h w.heap.size x S wr e wr') :
    ∃ L' v', e = .returned (.bool (decide (addOk b S x.m))) ∧ PlayI w wr' g h gb b own s (addS b S x.m) L' v' ∧ PlayP w (addS b S x.m) L' := by
  have hgh := H.gh
  rcases hA with ⟨hok, rfl, v', hR, hK⟩ | ⟨hno, rfl, hR, hb⟩
  · refine ⟨L ++ [⟨x.m.from_, x.m.reg, x.es⟩], v', by rw [decide_eq_true hok], ?_, ?_⟩
    · obtain ⟨h1, ⟨sl, hb, hrow⟩, h3, h4, h5, h6, h7, h8⟩ := H
      have hown : ∀ q, v.ownBlock = some q → w.heap.size ≤ q := fun q e => (h3.2.lt q e).1
      refine ⟨h1.trans (hK.below (B := w.heap.size) (fun k e => by cases e; exact h6) hown h1.size), ?_, hR, ?_, h5, h6, h7, h8⟩
      · exact BalAt.kept ⟨sl, hb, hrow⟩ hK (fun e => hgh (Option.some.inj e)) (fun e => own_not h3.2 e.symm (show 97 ≠ 85 by decide) _ hb) (fun q e => by cases e; exact blk_not h3.1 (by decide)) (fun q e => own_not h3.2 e (by decide))
      · exact hK.blk h4 (fun e => h8 (Option.some.inj e).symm) (fun e => own_not h3.2 e.symm (show 97 ≠ 53 by decide) _ h4)
    · obtain ⟨p1, p2, p3⟩ := hP
      have ho := addOk_iff.1 hok
      rw [addS_yes hok]
      refine ⟨?_, fun y hy => ?_, regs_put p3 (mayR_len hok.2.1)⟩
      · have hk7 : keyM x.m < 7 := by
          have h1 := addOk_n hok
          have h2 := sites_cases hn
          unfold keyM
          omega
        have := relB_put p1 x.m.reg ho.2 hk7
        have e1 : ((keyM x.m : Nat) : Int) = x.m.from_ := by
          have h1 := addOk_n hok
          unfold keyM
          omega
        rw [e1] at this
        unfold prL at this ⊢
        rw [List.map_append]
        exact this
      · rcases List.mem_append.1 hy with hy | hy
        · exact p2 y hy
        · obtain rfl : y = _ := by simpa using hy
          exact hx
  · refine ⟨L, v, by rw [decide_eq_false hno], ?_, ?_⟩
    · exact H.keep hb
    · rw [addS_no hno]
      exact hP
theorem PlayP.len (hP : PlayP w S L) : L.length = (listTo S 7).length := by rw [← prL_len]; exact relB_len hP.1
end

set_option maxHeartbeats 16000000 in
theorem ballotsPlay_walk (b : BegS) (own : RegS) (s : SlcE) (l : List MailV) (A : Option Addr) (c : Nat) (w : World) (hs : LogAt w w.heap.size s own.log) (hl : Mails w w.heap.size A l) (hn : l.length ≤ 9223372036854775807) :
    Calls Try.prog 12 #[.agg (begcells' b own s).toArray, .slice A l.length c] w fun e w' => e = .returned (.bool true) ∧ Below w.heap.size w w' := by
  have hz : Below w.heap.size w (w.alloc (.cells (begcells' b own s).toArray 53)) := (Below.refl _ _).alloc (Nat.le_refl _) _
  have BR := Blk.new w 53 (begcells' b own s)
  have HH := Lib.hid (And.intro hz (And.intro BR (And.intro hs hl)))
  clear hz BR hs hl
  go_enter Try.func12, Try.ntmps12
  go_wp2_with ((with_reducible refine at_list ?_); first | refine wpList_load_blk rfl 53 _ rfl _ rfl _ _ _ (HH.out.2.1) Try.underlying53 rfl begin_info ?_)
  refine (beyond18_any b own s l A c _ HH.out.2.2.1.1 (HH.out.2.2.2.keep HH.out.1) hn).mono ?_
  rintro e w1 ⟨y, rfl, hfit, hb⟩
  have H1 := Lib.hid (And.intro (below_trans HH.out.1 hb HH.out.1.size) (HH.out.2.1.keep hb))
  have HA := Lib.hid HH.out.2.2
  clear hb HH
  cases y with
  | true =>
    clear hfit
    go_wp2_with fail
    refine (lives18_any _).mono ?_
    rintro e w2 ⟨rfl, hb⟩
    have hw2 := below_trans H1.out.1 hb H1.out.1.size
    go_wp2_with fail
    go_ret
    exact ⟨rfl, hw2⟩
  | false =>
  have HF := Lib.hid (hfit rfl)
  clear hfit
  have hgb : w.heap.size ≤ w.heap.size := Nat.le_refl _
  have hltb := H1.out.2.lt
  have FB : ∀ w', Blk w' w.heap.size 53 (begcells' b own s) → w'.cell? ⟨w.heap.size, 0, none⟩ = some (.int .i64 b.stream) ∧ w'.cell? ⟨w.heap.size, 1, none⟩ = some (.int .i64 b.epoch) ∧ w'.cell? ⟨w.heap.size, 2, none⟩ = some (.int .i64 b.site) ∧ w'.cell? ⟨w.heap.size, 3, none⟩ = some (.int .i64 b.n) ∧ w'.cell? ⟨w.heap.size, 4, none⟩ = some (.int .i64 b.stamp) := fun w' h => ⟨h.cell 0, h.cell 1, h.cell 2, h.cell 3, h.cell 4⟩
  obtain ⟨f0, f1, f2, f3, f4⟩ := FB _ H1.out.2
  go_wp2_with ((with_reducible refine at_list ?_); refine wpList_load_part rfl 24 _ rfl w.heap.size 5 rfl _ _ (rgv own s) H1.out.2 (begin_reg b own s) _ Try.underlying24 rfl rg_info ?_)
  refine (new_any b own s w1 (HA.out.1.keep H1.out.1) (by have := HF.out.1; omega)).mono ?_
  rintro e w2 (⟨hok, g, rfl, hgw, hB, hb2⟩ | ⟨hno, rfl, hb2⟩)
  case inr =>
    have H2 := Lib.hid (And.intro (below_trans H1.out.1 hb2 H1.out.1.size) (H1.out.2.keep hb2))
    clear hb2 H1 f0 f1 f2 f3 f4
    obtain ⟨f0, f1, f2, f3, f4⟩ := FB _ H2.out.2
    go_wp2_with ((with_reducible refine at_list ?_); refine wpList_load_part rfl 24 _ rfl w.heap.size 5 rfl _ _ (rgv own s) H2.out.2 (begin_reg b own s) _ Try.underlying24 rfl rg_info ?_)
    refine (rnew_any b own s w2 (HA.out.1.keep H2.out.1)).mono ?_
    rintro e w3 (⟨hok, _⟩ | ⟨_, rfl, hb3⟩)
    case inl => exact absurd hok hno
    have H3 := Lib.hid (below_trans H2.out.1 hb3 H2.out.1.size)
    clear hb3 H2 f0 f1 f2 f3 f4
    go_wp2_with fail
    refine (lives18_any _).mono ?_
    rintro e w4 ⟨rfl, hb⟩
    have hw4 := below_trans H3.out hb H3.out.size
    go_wp2_with fail
    go_ret
    exact ⟨rfl, hw4⟩
  have H2 := Lib.hid (show Below w.heap.size w w2 ∧ Blk w2 w.heap.size 53 (begcells' b own s) ∧ BalAt w2 w.heap.size g b (put7 no7 b.site.toNat own) ∧ w1.heap.size ≤ g from ⟨below_trans H1.out.1 hb2 H1.out.1.size, H1.out.2.keep hb2, hB.base H1.out.1.size, hgw⟩)
  clear hb2 hB hgw f0 f1 f2 f3 f4
  obtain ⟨f0, f1, f2, f3, f4⟩ := FB _ H2.out.2.1
  go_wp2_with ((with_reducible refine at_list ?_); refine wpList_load_part rfl 24 _ rfl w.heap.size 5 rfl _ _ (rgv own s) H2.out.2.1 (begin_reg b own s) _ Try.underlying24 rfl rg_info ?_)
  refine (rnew_any b own s w2 (HA.out.1.keep H2.out.1)).mono ?_
  rintro e w3 (⟨_, h, v, rfl, hhw, hR, hb3⟩ | ⟨hno, _⟩)
  case inr => exact absurd hok hno
  have hsn : sitesE b.n = true := hok.2.2.1
  have H3 := Lib.hid (show PlayI w w3 g h w.heap.size b own s (put7 no7 b.site.toNat own) [⟨b.site, own, s⟩] v ∧ PlayP w (put7 no7 b.site.toNat own) [⟨b.site, own, s⟩] from by
    obtain ⟨q1, q2, q3, q4⟩ := H2.out
    have z1 := q1.size
    have z2 := H1.out.1.size
    refine ⟨⟨below_trans q1 hb3 z1, q3.keep hb3, ⟨hR.1, hR.2.base z1⟩, q2.keep hb3, by omega, by omega, by omega, by have := q2.lt; omega⟩, ?_, ?_, ?_⟩
    · have hs7 := of_in hsn hok.2.2.2.1 hok.2.2.2.2.1
      have h2 := sites_cases hsn
      have h3 := relB_new b.site.toNat own (by omega)
      rw [show ((b.site.toNat : Nat) : Int) = b.site by have := hok.2.2.2.1; omega] at h3
      exact h3
    · intro x hx
      obtain rfl : x = _ := by simpa using hx
      exact HA.out.1
    · exact regs_put (fun i _ => by simp [regOf, no7, reg0]) (mayR_len hok.2.2.2.2.2.2.1))
  have HN := Lib.hid (And.intro hsn hok)
  clear hb3 hR hhw H2 H1 hok hsn f0 f1 f2 f3 f4 hltb
  go_wp2_with fail
  go_loopg [9] l.length (fun q i wr => ∃ (j : Nat) (S : Slots) (L : List OneV) (v : Value), q = l.length - j ∧ j ≤ l.length ∧ i = .int .i64 j ∧ PlayI w wr g h w.heap.size b own s S L v ∧ PlayP w S L)
  case atStart => exact ⟨0, _, _, _, rfl, by omega, rfl, H3.out.1, H3.out.2⟩
  case round =>
    clear H3
    obtain ⟨j, S, L, v, hq, hj, rfl, hI, hP⟩ := hrel
    have AA : Aside (gk = l.length - j) := hq
    clear hq
    obtain ⟨wo, rfl⟩ : ∃ wo, wo = wr := ⟨_, rfl⟩
    have HI := Lib.hid (And.intro hI hP)
    clear hI hP
    by_cases hlt : j < l.length
    · have j0 : (0 : Int) ≤ (j : Int) := by omega
      have j1 : (j : Int) < (l.length : Int) := by omega
      obtain ⟨b1, o1, x, rfl, hx, FA, hLx⟩ := HA.out.2.range hlt
      have hx2 : x.m.ents.length ≤ 100 := HF.out.2.2 x (List.mem_of_getElem? hx.out)
      have HFA := Lib.hid FA
      clear FA
      go_wp2_with fail
      refine wp_region_t (.quiet 0 (.quiet 1 (.quiet 2 (.quiet 3 (.quiet 4 (.quiet 6 (.quiet 7 (.quiet 8 (.quiet 9 (.quiet 10 (.one 5 (.one 11 (.quiet 12 (.quiet 13 (.quiet 14 (.quiet 16 (.one 15 (.one 17 (.quiet 18 (.quiet 19 (.quiet 20 (.quiet 21 (.quiet 24 (.quiet 25 (.quiet 26 (.two 22 27 (.quiet 23 (.one 27 (.quiet 28 (.quiet 29 (.quiet 30 .done))))) (.quiet 28 (.one 22 (.quiet 23 (.quiet 29 (.quiet 30 .done))))))))))))))))))))))))))))))) (fun w' => Below w.heap.size w w') (by kernel_rfl) (by kernel_rfl) (by kernel_rfl) (by kernel_rfl) (HI.out.1.1.drew) rfl ?_
      intro KP RP TP hKP hTP hTP'
      simp only [Sch.fill, nth]
      go_wp2_with (first
        | (apply SeqT.skip; rfl; simp only [Act.put, List.setIfInBounds_toArray, List.set_cons_zero, List.set_cons_succ])
        | (apply SeqT.pure; rfl; (intro w2 hw; have hw := hTP _ hw; exact exec_load_range 65 _ rfl _ _ rfl _ (HFA.out _ hw) _ Try.underlying65 rfl mail_info); simp only [Act.put, List.setIfInBounds_toArray, List.set_cons_zero, List.set_cons_succ])
        | (apply SeqT.pure; rfl; (intro w2 hw; have hw := hTP _ hw; (skip); go_simp; with_reducible rfl); simp only [Act.put, List.setIfInBounds_toArray, List.set_cons_zero, List.set_cons_succ]))
      have HI1 := Lib.hid (show PlayI w wo.drew g h w.heap.size b own s S L v ∧ PlayP w S L from ⟨HI.out.1.keep (Below.refl _ _).drew, HI.out.2⟩)
      clear HI
      generalize wo.drew = wq at *
      apply SeqT.one
      apply EffT.go
      · rfl
      intro KE hKE
      go_wp2_with fail
      refine (add_any w.heap.size g b S x wq HI1.out.1.2.1 HI1.out.1.1.size HN.out.1 (hLx.out.keep HI1.out.1.1) (by omega)).mono ?_
      rintro e w4 hA4
      obtain ⟨rfl, hI4⟩ := HI1.out.1.add hA4
      have HI4 := Lib.hid (And.intro hI4 HI1.out.2)
      clear hI4 hA4 HI1
      refine hKE _ _ (hTP' _ HI4.out.1.1) ?_
      clear hKE KE
      apply SeqT.one
      apply EffT.go
      · rfl
      intro KE hKE
      go_wp2_with fail
      refine (radd_any w.heap.size h b L v x S w4 HI4.out.1.2.2.1 HI4.out.1.1.size HN.out.1 (hLx.out.keep HI4.out.1.1) HI4.out.2.1 (by have := HI4.out.2.len; have := listTo_len S 7; omega)).mono ?_
      rintro e w5 hA5
      obtain ⟨L', v', rfl, hI5, hP5⟩ := HI4.out.1.radd HI4.out.2 hLx.out HN.out.1 hA5
      have HI5 := Lib.hid (And.intro hI5 hP5)
      clear hI5 hA5 HI4 hP5
      refine hKE _ _ (hTP' _ HI5.out.1.1) ?_
      clear hKE KE
      generalize addS b S x.m = S' at *
      generalize decide (addOk b S x.m) = ok
      have hnb : (ok != ok) = false := by simp
      go_wp2_with (first
        | (apply SeqT.skip; rfl; simp only [Act.put, List.setIfInBounds_toArray, List.set_cons_zero, List.set_cons_succ])
        | (apply SeqT.call; rfl; rfl; (intro w2 hw; have hw := hTP _ hw; (skip); go_simp; exact ⟨rfl, rfl⟩); (intro w2 hw; have hw := hTP _ hw; (skip); (first | fail)); simp only [Act.put, List.setIfInBounds_toArray, List.set_cons_zero, List.set_cons_succ])
        | (apply SeqT.pure; rfl; (intro w2 hw; have hw := hTP _ hw; (skip); go_simp; with_reducible rfl); simp only [Act.put, List.setIfInBounds_toArray, List.set_cons_zero, List.set_cons_succ]))
      have hn0 : b.n ≠ 0 := by rcases sites_cases HN.out.1 with e | e | e | e | e | e <;> omega
      obtain ⟨sl5, hbk5, _⟩ := HI5.out.1.2.1
      apply SeqT.one
      apply EffT.go
      · rfl
      intro KE hKE
      go_wp2_with fail
      refine (won_any g b S' sl5 w5 hbk5 hn0).mono ?_
      rintro e w6 ⟨rfl, hb6⟩
      have HI6 := Lib.hid (And.intro (HI5.out.1.keep hb6) HI5.out.2)
      clear hb6 HI5 hbk5
      refine hKE _ _ (hTP' _ HI6.out.1.1) ?_
      clear hKE KE
      apply SeqT.one
      apply EffT.go
      · rfl
      intro KE hKE
      go_wp2_with fail
      refine (rwon_any w.heap.size h b L' v' w6 HI6.out.1.2.2.1 HN.out.1).mono ?_
      rintro e w7 ⟨rfl, hb7⟩
      have HI7 := Lib.hid (And.intro (HI6.out.1.keep hb7) HI6.out.2)
      clear hb7 HI6
      have hLn := HI7.out.2.len
      have hwe : decide (majE b.n ≤ (L'.length : Int)) = wonS b S' := by unfold wonS; rw [hLn]
      rw [hwe]
      clear hwe
      refine hKE _ _ (hTP' _ HI7.out.1.1) ?_
      clear hKE KE
      generalize hwn : wonS b S' = wn
      have HWN := Lib.hid hwn
      clear hwn
      have hnw : (wn != wn) = false := by simp
      go_wp2_with (first
        | (apply SeqT.skip; rfl; simp only [Act.put, List.setIfInBounds_toArray, List.set_cons_zero, List.set_cons_succ])
        | (apply SeqT.call; rfl; rfl; (intro w2 hw; have hw := hTP _ hw; (skip); go_simp; exact ⟨rfl, rfl⟩); (intro w2 hw; have hw := hTP _ hw; (skip); (first | fail)); simp only [Act.put, List.setIfInBounds_toArray, List.set_cons_zero, List.set_cons_succ])
        | (apply SeqT.pure; rfl; (intro w2 hw; have hw := hTP _ hw; (skip); go_simp; with_reducible rfl); simp only [Act.put, List.setIfInBounds_toArray, List.set_cons_zero, List.set_cons_succ]))
      clear hnb hnw
      obtain ⟨A7, c7, rfl, _, _, _⟩ := Gr.Row.form HI7.out.1.2.2.1.2
      obtain ⟨sl7, hbk7, _⟩ := HI7.out.1.2.1
      have q5 : w7.cell? ⟨h, 5, none⟩ = some (.slice A7 L'.length c7) := HI7.out.1.2.2.1.1.cell 5
      have hsl : (sitesTo S' 7).length = L'.length := by rw [sitesTo_len, hLn]
      have hnl : ((L'.length : Int) != (L'.length : Int)) = false := by simp
      apply mergeAC (Inv := fun _ _ w' => PlayI w w' g h w.heap.size b own s S' L' (.slice A7 L'.length c7)) (K := KP)
      · intro HK
        apply SeqT.two
        · apply EffT.go
          · rfl
          intro KE hKE
          go_wp2_with fail
          refine (bsites_any g b S' sl7 w7 hbk7 hn0).mono ?_
          rintro e w8 ⟨v8, rfl, hR8, hb8⟩
          obtain ⟨A8, c8, rfl, _, _, _⟩ := RowI.form hR8
          rw [hsl]
          have HI8 := Lib.hid (HI7.out.1.keep hb8)
          refine hKE _ _ (hTP' _ HI8.out.1) ?_
          clear hKE KE hR8 hb8
          go_wp2_with (first
            | (apply SeqT.skip; rfl; simp only [Act.put, List.setIfInBounds_toArray, List.set_cons_zero, List.set_cons_succ])
            | (apply SeqT.call; rfl; rfl; (intro w2 hw; have hw := hTP _ hw; (skip); go_simp; exact ⟨rfl, rfl⟩); (intro w2 hw; have hw := hTP _ hw; (skip); (first | fail)); simp only [Act.put, List.setIfInBounds_toArray, List.set_cons_zero, List.set_cons_succ])
            | (apply SeqT.pure; rfl; (intro w2 hw; have hw := hTP _ hw; (skip); go_simp; with_reducible rfl); simp only [Act.put, List.setIfInBounds_toArray, List.set_cons_zero, List.set_cons_succ]))
          have q8 : w8.cell? ⟨h, 5, none⟩ = some (.slice A7 L'.length c7) := HI8.out.2.2.1.1.cell 5
          apply SeqT.one
          apply EffT.go
          · rfl
          intro KE hKE
          go_wp2_with fail
          refine hKE _ _ (hTP' _ (HI8.out.1)) ?_
          clear hKE KE
          go_wp2_with (first
            | (apply SeqT.skip; rfl; simp only [Act.put, List.setIfInBounds_toArray, List.set_cons_zero, List.set_cons_succ])
            | (apply SeqT.call; rfl; rfl; (intro w2 hw; have hw := hTP _ hw; (skip); go_simp; exact ⟨rfl, rfl⟩); (intro w2 hw; have hw := hTP _ hw; (skip); (first | fail)); simp only [Act.put, List.setIfInBounds_toArray, List.set_cons_zero, List.set_cons_succ])
            | (apply SeqT.pure; rfl; (intro w2 hw; have hw := hTP _ hw; (skip); go_simp; with_reducible rfl); simp only [Act.put, List.setIfInBounds_toArray, List.set_cons_zero, List.set_cons_succ]))
          apply SeqT.done
          exact HK A8 c8 w8 HI8.out
        · apply EffT.go
          · rfl
          intro KE hKE
          go_wp2_with fail
          refine hKE _ _ (hTP' _ (HI7.out.1.1)) ?_
          clear hKE KE
          go_wp2_with (first
            | (apply SeqT.skip; rfl; simp only [Act.put, List.setIfInBounds_toArray, List.set_cons_zero, List.set_cons_succ])
            | (apply SeqT.call; rfl; rfl; (intro w2 hw; have hw := hTP _ hw; (skip); go_simp; exact ⟨rfl, rfl⟩); (intro w2 hw; have hw := hTP _ hw; (skip); (first | fail)); simp only [Act.put, List.setIfInBounds_toArray, List.set_cons_zero, List.set_cons_succ])
            | (apply SeqT.pure; rfl; (intro w2 hw; have hw := hTP _ hw; (skip); go_simp; with_reducible rfl); simp only [Act.put, List.setIfInBounds_toArray, List.set_cons_zero, List.set_cons_succ]))
          apply SeqT.one
          apply EffT.go
          · rfl
          intro KE hKE
          go_wp2_with fail
          refine (bsites_any g b S' sl7 w7 hbk7 hn0).mono ?_
          rintro e w8 ⟨v8, rfl, hR8, hb8⟩
          obtain ⟨A8, c8, rfl, _, _, _⟩ := RowI.form hR8
          rw [hsl]
          have HI8 := Lib.hid (HI7.out.1.keep hb8)
          refine hKE _ _ (hTP' _ HI8.out.1) ?_
          clear hKE KE hR8 hb8
          go_wp2_with (first
            | (apply SeqT.skip; rfl; simp only [Act.put, List.setIfInBounds_toArray, List.set_cons_zero, List.set_cons_succ])
            | (apply SeqT.call; rfl; rfl; (intro w2 hw; have hw := hTP _ hw; (skip); go_simp; exact ⟨rfl, rfl⟩); (intro w2 hw; have hw := hTP _ hw; (skip); (first | fail)); simp only [Act.put, List.setIfInBounds_toArray, List.set_cons_zero, List.set_cons_succ])
            | (apply SeqT.pure; rfl; (intro w2 hw; have hw := hTP _ hw; (skip); go_simp; with_reducible rfl); simp only [Act.put, List.setIfInBounds_toArray, List.set_cons_zero, List.set_cons_succ]))
          apply SeqT.done
          exact HK A8 c8 w8 HI8.out
      intro A8 c8 w8 hI8
      refine hKP _ _ (hTP' _ hI8.1) ?_
      clear hKP hTP hTP' hsl hnl q5 hbk7 hLn
      have HI8 := Lib.hid (And.intro hI8 HI7.out.2)
      clear hI8 HI7
      go_wp2_with fail
      refine (chosen_any w.heap.size g b S' w8 HI8.out.1.2.1 HN.out.1 HI8.out.2.2.2).mono ?_
      rintro e w9 ⟨v9, rfl, hR9, hb9⟩
      have HI9 := Lib.hid (And.intro (HI8.out.1.keep hb9) HI8.out.2)
      have hch := chosen_same (b := b) HN.out.1 HI8.out.2.1
      obtain ⟨⟨lg, cm, er⟩, hz⟩ : ∃ z, chosenS b S' = z := ⟨_, rfl⟩
      rw [hz] at hch hR9 ⊢
      obtain ⟨s9, rfl, hL9⟩ := hR9.log
      have HL9 := Lib.hid (And.intro hL9 hch)
      clear hL9 hR9 hb9 HI8 hch hz
      go_wp2_with fail
      have hrc := rchosen_any w.heap.size h b L' (.slice A7 L'.length c7) w9 HI9.out.1.2.2.1 HN.out.1 (fun x hx => (HI9.out.2.2.1 x hx).keep HI9.out.1.1)
      rw [HL9.out.2] at hrc
      refine hrc.mono ?_
      clear hrc
      rintro e wa ⟨sa, rfl, hLa, hba⟩
      have HIa := Lib.hid (And.intro (HI9.out.1.keep hba) HI9.out.2)
      have HLa := Lib.hid (And.intro (HL9.out.1.keep hba) hLa)
      clear hLa hba HI9 HL9
      have hcm : (cm != cm) = false := by simp
      have her : (er != er) = false := by simp
      go_wp2_with fail
      refine (samelog_of s9 sa lg wa HLa.out.1 HLa.out.2).mono ?_
      rintro e wb ⟨rfl, hbb⟩
      have HIb := Lib.hid (And.intro (HIa.out.1.keep hbb) HIa.out.2)
      clear hbb HIa HLa
      go_wp2_with fail
      go_roundg (l.length - (j + 1))
      case measure => have hkk := AA.out; omega
      case rel => exact ⟨j + 1, S', L', _, rfl, by omega, by go_num, HIb.out.1, HIb.out.2⟩
    · obtain rfl : j = l.length := by omega
      have j1 : ¬ (l.length : Int) < (l.length : Int) := by omega
      have hn0 : b.n ≠ 0 := by rcases sites_cases HN.out.1 with e | e | e | e | e | e <;> omega
      go_wp2_with fail
      have HI1 := Lib.hid (show PlayI w wo.drew g h w.heap.size b own s S L v ∧ PlayP w S L from ⟨HI.out.1.keep (Below.refl _ _).drew, HI.out.2⟩)
      clear HI
      refine wp_region_p ([(0, true), (2, true), (3, true), (1, false), (4, true), (5, true), (6, true), (8, true), (9, true), (7, false), (10, true), (11, true), (12, true), (13, false), (14, true), (15, true)]) (fun w' => Blk w' w.heap.size 53 (begcells' b own s)) (by kernel_rfl) rfl (by kernel_rfl) (by kernel_rfl) (HI1.out.1.2.2.2.1) rfl ?_
      intro KP RP TP hKP hTP hTP'
      simp only [List.append_eq, List.cons_append, List.nil_append, pick, nth]
      generalize wo.drew = wq at *
      go_wp2_with (first
        | (apply SeqP.skip; rfl; simp only [Act.put, List.setIfInBounds_toArray, List.set_cons_zero, List.set_cons_succ])
        | (apply SeqP.call; rfl; rfl; (intro w2 hw; have hw := hTP _ hw; ((obtain ⟨f0, f1, f2, f3, f4⟩ := FB _ hw)); go_simp; exact ⟨rfl, rfl⟩); (intro w2 hw; have hw := hTP _ hw; ((obtain ⟨f0, f1, f2, f3, f4⟩ := FB _ hw)); (first | fail)); simp only [Act.put, List.setIfInBounds_toArray, List.set_cons_zero, List.set_cons_succ])
        | (apply SeqP.pure; rfl; (intro w2 hw; have hw := hTP _ hw; ((obtain ⟨f0, f1, f2, f3, f4⟩ := FB _ hw)); go_simp; with_reducible rfl); simp only [Act.put, List.setIfInBounds_toArray, List.set_cons_zero, List.set_cons_succ])
        | (apply SeqP.split; rfl; rfl; all_goals (intro hc; simp only [hc]; try simp only [beq_iff_eq, decide_eq_true_eq, beq_eq_false_iff_ne, decide_eq_false_iff_not, bne_iff_ne, ne_eq, Bool.not_eq_true', Bool.not_eq_false', Int.not_le, Int.not_lt, bne_eq_false_iff_eq, Bool.or_eq_true, Bool.and_eq_true, Bool.or_eq_false_iff] at hc)))
      apply SeqP.eff
      · rfl
      intro KE hKE
      go_wp2_with fail
      refine (bepoch_any w.heap.size g b S wq HI1.out.1.2.1 hn0).mono ?_
      rintro e w4 ⟨rfl, rfl⟩
      refine hKE _ _ (hTP' _ HI1.out.1.2.2.2.1) ?_
      clear hKE KE
      have he : (b.epoch == b.epoch) = true := by simp
      go_wp2_with (first
        | (apply SeqP.skip; rfl; simp only [Act.put, List.setIfInBounds_toArray, List.set_cons_zero, List.set_cons_succ])
        | (apply SeqP.call; rfl; rfl; (intro w2 hw; have hw := hTP _ hw; ((obtain ⟨f0, f1, f2, f3, f4⟩ := FB _ hw)); go_simp; exact ⟨rfl, rfl⟩); (intro w2 hw; have hw := hTP _ hw; ((obtain ⟨f0, f1, f2, f3, f4⟩ := FB _ hw)); (first | fail)); simp only [Act.put, List.setIfInBounds_toArray, List.set_cons_zero, List.set_cons_succ])
        | (apply SeqP.pure; rfl; (intro w2 hw; have hw := hTP _ hw; ((obtain ⟨f0, f1, f2, f3, f4⟩ := FB _ hw)); go_simp; with_reducible rfl); simp only [Act.put, List.setIfInBounds_toArray, List.set_cons_zero, List.set_cons_succ])
        | (apply SeqP.split; rfl; rfl; all_goals (intro hc; simp only [hc]; try simp only [beq_iff_eq, decide_eq_true_eq, beq_eq_false_iff_ne, decide_eq_false_iff_not, bne_iff_ne, ne_eq, Bool.not_eq_true', Bool.not_eq_false', Int.not_le, Int.not_lt, bne_eq_false_iff_eq, Bool.or_eq_true, Bool.and_eq_true, Bool.or_eq_false_iff] at hc)))
      apply SeqP.eff
      · rfl
      intro KE hKE
      go_wp2_with fail
      refine (bstamp_any w.heap.size g b S w4 HI1.out.1.2.1 hn0).mono ?_
      rintro e w5 ⟨rfl, rfl⟩
      refine hKE _ _ (hTP' _ HI1.out.1.2.2.2.1) ?_
      clear hKE KE
      have hs : (b.stamp == b.stamp) = true := by simp
      go_wp2_with (first
        | (apply SeqP.skip; rfl; simp only [Act.put, List.setIfInBounds_toArray, List.set_cons_zero, List.set_cons_succ])
        | (apply SeqP.call; rfl; rfl; (intro w2 hw; have hw := hTP _ hw; ((obtain ⟨f0, f1, f2, f3, f4⟩ := FB _ hw)); go_simp; exact ⟨rfl, rfl⟩); (intro w2 hw; have hw := hTP _ hw; ((obtain ⟨f0, f1, f2, f3, f4⟩ := FB _ hw)); (first | fail)); simp only [Act.put, List.setIfInBounds_toArray, List.set_cons_zero, List.set_cons_succ])
        | (apply SeqP.pure; rfl; (intro w2 hw; have hw := hTP _ hw; ((obtain ⟨f0, f1, f2, f3, f4⟩ := FB _ hw)); go_simp; with_reducible rfl); simp only [Act.put, List.setIfInBounds_toArray, List.set_cons_zero, List.set_cons_succ])
        | (apply SeqP.split; rfl; rfl; all_goals (intro hc; simp only [hc]; try simp only [beq_iff_eq, decide_eq_true_eq, beq_eq_false_iff_ne, decide_eq_false_iff_not, bne_iff_ne, ne_eq, Bool.not_eq_true', Bool.not_eq_false', Int.not_le, Int.not_lt, bne_eq_false_iff_eq, Bool.or_eq_true, Bool.and_eq_true, Bool.or_eq_false_iff] at hc)))
      apply SeqP.eff
      · rfl
      intro KE hKE
      go_wp2_with fail
      refine (lives18_any _).mono ?_
      rintro e w6 ⟨rfl, hb6⟩
      have HI6 := Lib.hid (HI1.out.1.keep hb6)
      refine hKE _ _ (hTP' _ HI6.out.2.2.2.1) ?_
      clear hKE KE hb6
      go_wp2_with (first
        | (apply SeqP.skip; rfl; simp only [Act.put, List.setIfInBounds_toArray, List.set_cons_zero, List.set_cons_succ])
        | (apply SeqP.call; rfl; rfl; (intro w2 hw; have hw := hTP _ hw; ((obtain ⟨f0, f1, f2, f3, f4⟩ := FB _ hw)); go_simp; exact ⟨rfl, rfl⟩); (intro w2 hw; have hw := hTP _ hw; ((obtain ⟨f0, f1, f2, f3, f4⟩ := FB _ hw)); (first | fail)); simp only [Act.put, List.setIfInBounds_toArray, List.set_cons_zero, List.set_cons_succ])
        | (apply SeqP.pure; rfl; (intro w2 hw; have hw := hTP _ hw; ((obtain ⟨f0, f1, f2, f3, f4⟩ := FB _ hw)); go_simp; with_reducible rfl); simp only [Act.put, List.setIfInBounds_toArray, List.set_cons_zero, List.set_cons_succ])
        | (apply SeqP.split; rfl; rfl; all_goals (intro hc; simp only [hc]; try simp only [beq_iff_eq, decide_eq_true_eq, beq_eq_false_iff_ne, decide_eq_false_iff_not, bne_iff_ne, ne_eq, Bool.not_eq_true', Bool.not_eq_false', Int.not_le, Int.not_lt, bne_eq_false_iff_eq, Bool.or_eq_true, Bool.and_eq_true, Bool.or_eq_false_iff] at hc)))
      apply SeqP.nil
      refine hKP _ _ (hTP' _ (HI6.out.2.2.2.1)) ?_
      clear hKP hTP hTP'
      go_wp2_with fail
      go_ret
      exact ⟨rfl, HI6.out.1⟩
end Go.Proofs.Ytbicefilfhcgoaa

set_option linter.unusedSimpArgs false
set_option linter.unusedVariables false
set_option maxRecDepth 100000
namespace Go.Proofs.Ytbicefilfhcgoaa
open Go Go.RowKit Go.Sq Go.Wd Go.Arch

def NoBal (w : World) (v : Value) : Prop := v = .pointer none ∨ ∃ g, v = .pointer (some ⟨g, 0, none⟩) ∧ w.cell? ⟨g, 3, none⟩ = some (.int .i64 0)
theorem NoBal.keep {w w' : World} {v : Value} (h : NoBal w v) (hb : Below w.heap.size w w') : NoBal w' v := by
  rcases h with rfl | ⟨g, rfl, hc⟩
  · exact .inl rfl
  · exact .inr ⟨g, rfl, (hb.cell (p := ⟨g, 3, none⟩) (World.block_lt_of_cell? _ _ hc)).trans hc⟩
theorem none_no {w : World} {v : Value} (h : NoBal w v) : Calls Try.prog 52 #[v] w fun e w' => e = .returned (.bool true) ∧ w' = w := by
  rcases h with rfl | ⟨g, rfl, hc⟩
  · exact none_nil w
  · exact none_any g 0 w hc
section
variable {w : World} {v : Value}
theorem bepoch_no (h : NoBal w v) : Calls Try.prog 44 #[v] w fun e w' => e = .returned (.int .i64 0) ∧ w' = w := by
  go_enter Try.func44, Try.ntmps44
  go_wp2_with fail
  refine (none_no h).mono ?_
  rintro e w1 ⟨rfl, rfl⟩
  go_wp2_with fail
  go_ret
  exact ⟨rfl, rfl⟩
theorem bstamp_no (h : NoBal w v) : Calls Try.prog 45 #[v] w fun e w' => e = .returned (.int .i64 0) ∧ w' = w := by
  go_enter Try.func45, Try.ntmps45
  go_wp2_with fail
  refine (none_no h).mono ?_
  rintro e w1 ⟨rfl, rfl⟩
  go_wp2_with fail
  go_ret
  exact ⟨rfl, rfl⟩
theorem bmail_no (h : NoBal w v) : Calls Try.prog 34 #[v] w fun e w' => e = .returned (.slice none 0 0) ∧ w' = w := by
  go_enter Try.func34, Try.ntmps34
  go_wp2_with fail
  refine (none_no h).mono ?_
  rintro e w1 ⟨rfl, rfl⟩
  go_wp2_with fail
  go_ret
  exact ⟨rfl, rfl⟩
theorem bsites_no (h : NoBal w v) : Calls Try.prog 42 #[v] w fun e w' => e = .returned (.slice none 0 0) ∧ w' = w := by
  go_enter Try.func42, Try.ntmps42
  go_wp2_with fail
  refine (none_no h).mono ?_
  rintro e w1 ⟨rfl, rfl⟩
  go_wp2_with fail
  go_ret
  exact ⟨rfl, rfl⟩
theorem chosen_no (h : NoBal w v) : Calls Try.prog 32 #[v] w fun e w' => e = .returned (.tuple #[.slice none 0 0, .int .i64 0, .int .i64 1]) ∧ w' = w := by
  go_enter Try.func32, Try.ntmps32
  go_wp2_with fail
  refine (none_no h).mono ?_
  rintro e w1 ⟨rfl, rfl⟩
  go_wp2_with fail
  apply ret_of
  · simp only [results, Try.results32]
    go_simp
    with_reducible rfl
  refine ⟨rfl, ?_⟩
  exact ⟨rfl, rfl⟩
set_option maxHeartbeats 2000000 in
theorem won_no (h : NoBal w v) : Calls Try.prog 33 #[v] w fun e w' => e = .returned (.bool false) ∧ Below w.heap.size w w' := by
  have H := Lib.hid h
  clear h
  have hw : Below w.heap.size w w := Below.refl _ _
  go_enter Try.func33, Try.ntmps33
  go_wp2_with fail
  refine wp_region_p ([(0, true), (1, true), (2, true), (3, true), (4, true), (7, true), (8, true), (9, true), (10, true), (5, false), (6, true), (11, true), (12, true), (13, true), (14, true)]) (fun w' => Below w.heap.size w w') (by kernel_rfl) rfl (by kernel_rfl) (by kernel_rfl) (hw.drew) rfl ?_
  intro KP RP TP hKP hTP hTP'
  simp only [pick, nth]
  go_wp2_with (first
    | (apply SeqP.skip; rfl; simp only [Act.put, List.setIfInBounds_toArray, List.set_cons_zero, List.set_cons_succ])
    | (apply SeqP.call; rfl; rfl; (intro w2 hw; have hw := hTP _ hw; (skip); go_simp; exact ⟨rfl, rfl⟩); (intro w2 hw; have hw := hTP _ hw; (skip); (first | (go_at_call 52; refine (none_no (H.out.keep hw)).mono ?_; rintro e w' ⟨rfl, rfl⟩; exact ⟨rfl, rfl⟩) | (go_at_call 36; refine (maj_any _ _).mono ?_; rintro e w' ⟨rfl, rfl⟩; exact ⟨rfl, rfl⟩))); simp only [Act.put, List.setIfInBounds_toArray, List.set_cons_zero, List.set_cons_succ])
    | (apply SeqP.pure; rfl; (intro w2 hw; have hw := hTP _ hw; (skip); go_simp; with_reducible rfl); simp only [Act.put, List.setIfInBounds_toArray, List.set_cons_zero, List.set_cons_succ])
    | (apply SeqP.split; rfl; rfl; all_goals (intro hc; simp only [hc]; try simp only [beq_iff_eq, decide_eq_true_eq, beq_eq_false_iff_ne, decide_eq_false_iff_not, bne_iff_ne, ne_eq, Bool.not_eq_true', Bool.not_eq_false', Int.not_le, Int.not_lt, bne_eq_false_iff_eq, Bool.or_eq_true, Bool.and_eq_true, Bool.or_eq_false_iff] at hc)))
  apply SeqP.skip_eff
  · rfl
  · exact hTP' _ (hw.drew)
  (try simp only [Act.put, List.setIfInBounds_toArray, List.set_cons_zero, List.set_cons_succ])
  go_wp2_with (first
    | (apply SeqP.skip; rfl; simp only [Act.put, List.setIfInBounds_toArray, List.set_cons_zero, List.set_cons_succ])
    | (apply SeqP.call; rfl; rfl; (intro w2 hw; have hw := hTP _ hw; (skip); go_simp; exact ⟨rfl, rfl⟩); (intro w2 hw; have hw := hTP _ hw; (skip); (first | (go_at_call 52; refine (none_no (H.out.keep hw)).mono ?_; rintro e w' ⟨rfl, rfl⟩; exact ⟨rfl, rfl⟩) | (go_at_call 36; refine (maj_any _ _).mono ?_; rintro e w' ⟨rfl, rfl⟩; exact ⟨rfl, rfl⟩))); simp only [Act.put, List.setIfInBounds_toArray, List.set_cons_zero, List.set_cons_succ])
    | (apply SeqP.pure; rfl; (intro w2 hw; have hw := hTP _ hw; (skip); go_simp; with_reducible rfl); simp only [Act.put, List.setIfInBounds_toArray, List.set_cons_zero, List.set_cons_succ])
    | (apply SeqP.split; rfl; rfl; all_goals (intro hc; simp only [hc]; try simp only [beq_iff_eq, decide_eq_true_eq, beq_eq_false_iff_ne, decide_eq_false_iff_not, bne_iff_ne, ne_eq, Bool.not_eq_true', Bool.not_eq_false', Int.not_le, Int.not_lt, bne_eq_false_iff_eq, Bool.or_eq_true, Bool.and_eq_true, Bool.or_eq_false_iff] at hc)))
  apply SeqP.nil
  refine hKP _ _ (hTP' _ (hw.drew)) ?_
  clear hKP hTP hTP'
  go_wp2_with fail
  go_ret
  exact ⟨rfl, hw.drew⟩
set_option maxHeartbeats 2000000 in
theorem add_nob (h : NoBal w v) (x : MailV) : Calls Try.prog 31 #[v, .agg (mailv x).toArray] w fun e w' => e = .returned (.bool false) ∧ Below w.heap.size w w' := by
  have H := Lib.hid h
  clear h
  have hw : Below w.heap.size w (w.alloc (.cells (mailv x).toArray 65)) := (Below.refl _ _).alloc (Nat.le_refl _) _
  have HW := Lib.hid hw
  clear hw
  go_enter Try.func31, Try.ntmps31
  go_wp2_with fail
  refine wp_region_p ([(0, true), (1, true), (2, true), (3, true), (4, true), (5, true), (6, true), (7, true), (8, true), (9, true), (10, true), (11, true), (12, true), (13, true), (14, true), (15, true), (16, true), (17, true), (18, true), (19, true), (20, true), (21, true), (22, true), (23, true), (24, true), (25, true), (26, true), (27, true), (28, true), (29, true), (30, true), (31, true), (32, true), (33, true), (34, true), (35, true), (36, true), (37, true), (38, true), (39, true), (40, true), (41, true), (42, true), (43, true), (44, true), (45, true), (46, true), (47, true), (48, true), (49, true), (50, true), (51, true), (52, true), (53, true), (54, true), (55, true), (56, true), (57, true), (58, true), (59, true), (60, true), (61, true), (62, true), (63, true), (64, true), (65, true)]) (fun w' => Below w.heap.size w w') (by kernel_rfl) rfl (by kernel_rfl) (by kernel_rfl) (HW.out.drew) rfl ?_
  intro KP RP TP hKP hTP hTP'
  simp only [List.append_eq, List.cons_append, List.nil_append, pick, nth]
  go_wp2_with (first
    | (apply SeqP.skip; rfl; simp only [Act.put, List.setIfInBounds_toArray, List.set_cons_zero, List.set_cons_succ])
    | (apply SeqP.call; rfl; rfl; (intro w2 hw; have hw := hTP _ hw; (skip); go_simp; exact ⟨rfl, rfl⟩); (intro w2 hw; have hw := hTP _ hw; (skip); (first | (go_at_call 52; refine (none_no (H.out.keep hw)).mono ?_; rintro e w' ⟨rfl, rfl⟩; exact ⟨rfl, rfl⟩))); simp only [Act.put, List.setIfInBounds_toArray, List.set_cons_zero, List.set_cons_succ])
    | (apply SeqP.pure; rfl; (intro w2 hw; have hw := hTP _ hw; (skip); go_simp; with_reducible rfl); simp only [Act.put, List.setIfInBounds_toArray, List.set_cons_zero, List.set_cons_succ])
    | (apply SeqP.split; rfl; rfl; all_goals (intro hc; simp only [hc]; try simp only [beq_iff_eq, decide_eq_true_eq, beq_eq_false_iff_ne, decide_eq_false_iff_not, bne_iff_ne, ne_eq, Bool.not_eq_true', Bool.not_eq_false', Int.not_le, Int.not_lt, bne_eq_false_iff_eq, Bool.or_eq_true, Bool.and_eq_true, Bool.or_eq_false_iff] at hc)))
  apply SeqP.nil
  refine hKP _ _ (hTP' _ (HW.out.drew)) ?_
  clear hKP hTP hTP'
  go_wp2_with fail
  go_ret
  exact ⟨rfl, HW.out.drew⟩
end
end Go.Proofs.Ytbicefilfhcgoaa

set_option linter.unusedSimpArgs false
set_option linter.unusedVariables false
set_option maxRecDepth 100000
namespace Go.Proofs.Ytbicefilfhcgoaa
open Go Go.RowKit Go.Sq Go.Wd Go.Arch

def onceV (f : Nat → Bool) : List Value := [.bool (f 0), .bool (f 1), .bool (f 2), .bool (f 3), .bool (f 4), .bool (f 5), .bool (f 6)]
theorem onceV_at (f : Nat → Bool) {k : Nat} (h : k < 7) : (onceV f)[k]? = some (.bool (f k)) := by
  obtain rfl | rfl | rfl | rfl | rfl | rfl | rfl := cases7 h
  all_goals rfl
def onceUp (f : Nat → Bool) (k : Nat) : Nat → Bool := fun i => if i = k then true else f i
theorem onceV_set (f : Nat → Bool) {k : Nat} (h : k < 7) : (onceV f).set k (.bool true) = onceV (onceUp f k) := by
  obtain rfl | rfl | rfl | rfl | rfl | rfl | rfl := cases7 h
  all_goals rfl

/-- Two ballots, what they began with, who was counted. -/
def OrdI (w wr : World) (g h gb gn : Nat) (b : BegS) (own : RegS) (s : SlcE) (S T : Slots) (f : Nat → Bool) (cs : List MailV) (v : Value) : Prop :=
  Below w.heap.size w wr ∧ BalAt wr w.heap.size g b S ∧ BalAt wr w.heap.size h b T ∧ Blk wr gb 53 (begcells' b own s) ∧ Blk wr gn 60 (onceV f) ∧ Gr.Row mailE wr w.heap.size v cs ∧
    w.heap.size ≤ g ∧ w.heap.size ≤ h ∧ w.heap.size ≤ gn ∧ g ≠ h
section
variable {w wr wr' : World} {g h gb gn : Nat} {b : BegS} {own : RegS} {s : SlcE} {S T : Slots} {f : Nat → Bool} {cs : List MailV} {v : Value}
theorem OrdI.keep (H : OrdI w wr g h gb gn b own s S T f cs v) (hb : Below wr.heap.size wr wr') : OrdI w wr' g h gb gn b own s S T f cs v := by
  obtain ⟨h1, h2, h3, h4, h5, h6, h7⟩ := H
  exact ⟨below_trans h1 hb h1.size, h2.keep hb, h3.keep hb, h4.keep hb, h5.keep hb, h6.keep hb, h7⟩
theorem OrdI.addG {x : MailV} {e : Ending} (H : OrdI w wr g h gb gn b own s S T f cs v) (hA : AddPost b S g w.heap.size x.m wr e wr') : e = .returned (.bool (decide (addOk b S x.m))) ∧ OrdI w wr' g h gb gn b own s (addS b S x.m) T f cs v := by
  obtain ⟨he, hB, hK⟩ := hA
  obtain ⟨h1, h2, h3, h4, h5, h6, h7, h8, h9, hgh⟩ := H
  obtain ⟨bs, hb⟩ := bal_blk h2
  exact ⟨he, h1.trans (hK.below (B := w.heap.size) (fun k e => by cases e; exact h7) (fun k e => by cases e) h1.size), hB,
    h3.kept hK (fun e => hgh (Option.some.inj e).symm) (by simp) (fun q e => by cases e; exact blk_not hb (by decide)) (fun q e => by cases e),
    hK.blk h4 (blk_ne h4 hb (by decide)) (by simp), hK.blk h5 (blk_ne h5 hb (by decide)) (by simp), hK.own h6 (fun q e => by cases e; exact blk_not hb (by decide)) (fun q e => by cases e), h7, h8, h9, hgh⟩
theorem OrdI.addH {x : MailV} {e : Ending} (H : OrdI w wr g h gb gn b own s S T f cs v) (hA : AddPost b T h w.heap.size x.m wr e wr') : e = .returned (.bool (decide (addOk b T x.m))) ∧ OrdI w wr' g h gb gn b own s S (addS b T x.m) f cs v := by
  obtain ⟨he, hB, hK⟩ := hA
  obtain ⟨h1, h2, h3, h4, h5, h6, h7, h8, h9, hgh⟩ := H
  obtain ⟨bs, hb⟩ := bal_blk h3
  exact ⟨he, h1.trans (hK.below (B := w.heap.size) (fun k e => by cases e; exact h8) (fun k e => by cases e) h1.size),
    h2.kept hK (fun e => hgh (Option.some.inj e)) (by simp) (fun q e => by cases e; exact blk_not hb (by decide)) (fun q e => by cases e), hB,
    hK.blk h4 (blk_ne h4 hb (by decide)) (by simp), hK.blk h5 (blk_ne h5 hb (by decide)) (by simp), hK.own h6 (fun q e => by cases e; exact blk_not hb (by decide)) (fun q e => by cases e), h7, h8, h9, hgh⟩
/-- One is marked. -/
theorem OrdI.mark {k : Nat} (H : OrdI w wr g h gb gn b own s S T f cs v) (hk : k < 7) : OrdI w (wr.setCell ⟨gn, k, none⟩ (.bool true)) g h gb gn b own s S T (onceUp f k) cs v := by
  obtain ⟨h1, h2, h3, h4, h5, h6, h7, h8, h9, hgh⟩ := H
  have hg : wr.grownBy (wr.setCell ⟨gn, k, none⟩ (.bool true)) (some gn) := only_setCell (World.grownBy.refl wr _) (.inl rfl) _
  have hK : Kept wr (wr.setCell ⟨gn, k, none⟩ (.bool true)) (some gn) none := Kept.ofGrown hg
  obtain ⟨b2, hb2⟩ := bal_blk h2
  obtain ⟨b3, hb3⟩ := bal_blk h3
  refine ⟨h1.trans (below_grown hg h9 h1.size), h2.kept hK (blk_ne hb2 h5 (by decide)) (by simp) (fun q e => by cases e; exact blk_not h5 (by decide)) (fun q e => by cases e),
    h3.kept hK (blk_ne hb3 h5 (by decide)) (by simp) (fun q e => by cases e; exact blk_not h5 (by decide)) (fun q e => by cases e),
    hK.blk h4 (blk_ne h4 h5 (by decide)) (by simp), ?_, hK.own h6 (fun q e => by cases e; exact blk_not h5 (by decide)) (fun q e => by cases e), h7, h8, h9, hgh⟩
  rw [← onceV_set f hk]
  exact h5.set k _
/-- One more is counted. -/
theorem OrdI.push {v' : Value} {cs' : List MailV} (H : OrdI w wr g h gb gn b own s S T f cs v) (hg : wr.grownBy wr' v.ownBlock) (hR : Gr.Row mailE wr' w.heap.size v' cs') : OrdI w wr' g h gb gn b own s S T f cs' v' := by
  obtain ⟨h1, h2, h3, h4, h5, h6, h7, h8, h9, hgh⟩ := H
  have hK : Kept wr wr' v.ownBlock none := Kept.ofGrown hg
  obtain ⟨b2, hb2⟩ := bal_blk h2
  obtain ⟨b3, hb3⟩ := bal_blk h3
  have hown : ∀ q, v.ownBlock = some q → w.heap.size ≤ q := fun q e => (h6.lt q e).1
  exact ⟨h1.trans (hK.below (B := w.heap.size) hown (fun k e => by cases e) h1.size),
    h2.kept hK (fun e => own_not h6 e.symm (show 65 ≠ 85 by decide) _ hb2) (by simp) (fun q e => own_not h6 e (by decide)) (fun q e => by cases e),
    h3.kept hK (fun e => own_not h6 e.symm (show 65 ≠ 85 by decide) _ hb3) (by simp) (fun q e => own_not h6 e (by decide)) (fun q e => by cases e),
    hK.blk h4 (fun e => own_not h6 e.symm (show 65 ≠ 53 by decide) _ h4) (by simp), hK.blk h5 (fun e => own_not h6 e.symm (show 65 ≠ 60 by decide) _ h5) (by simp), hR, h7, h8, h9, hgh⟩
end
/-- What is known of those that were counted. -/
def OrdP (w : World) (b : BegS) (S0 S : Slots) (f : Nat → Bool) (cs : List MailV) : Prop :=
  Cnt b S0 (cs.map (·.m)) S ∧ (∀ k, f k = true → ∃ x ∈ cs, keyM x.m = k) ∧ (∀ x ∈ cs, LogAt w w.heap.size x.es x.m.ents ∧ x.m.ents.length ≤ 100) ∧ ∀ i, i < 7 → (regOf S i).log.length ≤ 64
theorem regs_add {b : BegS} {S : Slots} {m : MailS} (h : ∀ i, i < 7 → (regOf S i).log.length ≤ 64) : ∀ i, i < 7 → (regOf (addS b S m) i).log.length ≤ 64 := by
  by_cases ha : addOk b S m
  · rw [addS_yes ha]
    exact regs_put h (mayR_len ha.2.1)
  · rw [addS_no ha]
    exact h

/-- The k-th piece of a row, as a range of cells. -/
theorem row_range {w : World} {B : Nat} {A : Option Addr} {c n : Nat} {cs : List MailV} (h : Gr.Row mailE w B (.slice A n c) cs) {k : Nat} {x : MailV} (hx : cs[k]? = some x) : ∃ b off, A = some ⟨b, off, none⟩ ∧ w.rangeAt b (off + k * 18) (mailv x) := by
  obtain ⟨A', c', he, _, _, hS⟩ := Gr.Row.form h
  cases he
  obtain ⟨b, off, e, ha, he, _, F⟩ := Gr.Sl.at_ hS (List.getElem?_eq_some_iff.1 hx).1
  obtain rfl : x = e := by
    have := he.out
    rw [hx] at this
    exact Option.some.inj this
  refine ⟨b, off, ha, fun j v hv => ?_⟩
  have hj : j < 18 := (List.getElem?_eq_some_iff.1 hv).1
  have := F w (Below.refl _ _) j hj
  exact this.trans hv

set_option maxHeartbeats 16000000 in
theorem ballotsOrder_walk (b : BegS) (own : RegS) (s : SlcE) (l : List MailV) (A : Option Addr) (c : Nat) (w : World) (hs : LogAt w w.heap.size s own.log) (hl : Mails w w.heap.size A l) (hn : l.length ≤ 9223372036854775807) :
    Calls Try.prog 9 #[.agg (begcells' b own s).toArray, .slice A l.length c] w fun e w' => e = .returned (.bool true) ∧ Below w.heap.size w w' := by
  have hz : Below w.heap.size w (w.alloc (.cells (begcells' b own s).toArray 53)) := (Below.refl _ _).alloc (Nat.le_refl _) _
  have BR := Blk.new w 53 (begcells' b own s)
  have HH := Lib.hid (And.intro hz (And.intro BR (And.intro hs hl)))
  clear hz BR hs hl
  go_enter Try.func9, Try.ntmps9
  go_wp2_with ((with_reducible refine at_list ?_); first | refine wpList_load_blk rfl 53 _ rfl _ rfl _ _ _ (HH.out.2.1) Try.underlying53 rfl begin_info ?_)
  refine (beyond18_any b own s l A c _ HH.out.2.2.1.1 (HH.out.2.2.2.keep HH.out.1) hn).mono ?_
  rintro e w1 ⟨y, rfl, hfit, hb⟩
  have H1 := Lib.hid (And.intro (below_trans HH.out.1 hb HH.out.1.size) (HH.out.2.1.keep hb))
  have HA := Lib.hid HH.out.2.2
  clear hb HH
  cases y with
  | true =>
    clear hfit
    go_wp2_with fail
    refine (lives18_any _).mono ?_
    rintro e w2 ⟨rfl, hb⟩
    have hw2 := below_trans H1.out.1 hb H1.out.1.size
    go_wp2_with fail
    go_ret
    exact ⟨rfl, hw2⟩
  | false =>
  have HF := Lib.hid (hfit rfl)
  clear hfit
  have hgb : w.heap.size ≤ w.heap.size := Nat.le_refl _
  have hltb := H1.out.2.lt
  have FB : ∀ w', Blk w' w.heap.size 53 (begcells' b own s) → w'.cell? ⟨w.heap.size, 0, none⟩ = some (.int .i64 b.stream) ∧ w'.cell? ⟨w.heap.size, 1, none⟩ = some (.int .i64 b.epoch) ∧ w'.cell? ⟨w.heap.size, 2, none⟩ = some (.int .i64 b.site) ∧ w'.cell? ⟨w.heap.size, 3, none⟩ = some (.int .i64 b.n) ∧ w'.cell? ⟨w.heap.size, 4, none⟩ = some (.int .i64 b.stamp) := fun w' h => ⟨h.cell 0, h.cell 1, h.cell 2, h.cell 3, h.cell 4⟩
  obtain ⟨f0, f1, f2, f3, f4⟩ := FB _ H1.out.2
  go_wp2_with ((with_reducible refine at_list ?_); refine wpList_load_part rfl 24 _ rfl w.heap.size 5 rfl _ _ (rgv own s) H1.out.2 (begin_reg b own s) _ Try.underlying24 rfl rg_info ?_)
  refine (new_any b own s w1 (HA.out.1.keep H1.out.1) (by have := HF.out.1; omega)).mono ?_
  rintro e w2 (⟨hok, g, rfl, hgw, hB, hb2⟩ | ⟨hno, rfl, hb2⟩)
  case inr =>
    have H2 := Lib.hid (And.intro (below_trans H1.out.1 hb2 H1.out.1.size) (H1.out.2.keep hb2))
    clear hb2 H1 f0 f1 f2 f3 f4
    obtain ⟨f0, f1, f2, f3, f4⟩ := FB _ H2.out.2
    go_wp2_with ((with_reducible refine at_list ?_); refine wpList_load_part rfl 24 _ rfl w.heap.size 5 rfl _ _ (rgv own s) H2.out.2 (begin_reg b own s) _ Try.underlying24 rfl rg_info ?_)
    refine (new_any b own s w2 (HA.out.1.keep H2.out.1) (by have := HF.out.1; omega)).mono ?_
    rintro e w3 (⟨hok, _⟩ | ⟨_, rfl, hb3⟩)
    case inl => exact absurd hok hno
    have H3 := Lib.hid (below_trans H2.out.1 hb3 H2.out.1.size)
    clear hb3 H2 f0 f1 f2 f3 f4
    go_wp2_with fail
    have H4 := Lib.hid (H3.out.alloc H3.out.size (.cells (onceV (fun _ => false)).toArray 60))
    go_loopg [10, 11] l.length (fun q v i wr => ∃ j : Nat, q = l.length - j ∧ j ≤ l.length ∧ v = .slice none 0 0 ∧ i = .int .i64 j ∧ Below w.heap.size w wr)
    case atStart => exact ⟨0, rfl, by omega, rfl, rfl, H4.out⟩
    case round =>
      clear H4 H3
      obtain ⟨j, hq, hj, rfl, rfl, hwr⟩ := hrel
      have AA : Aside (gk = l.length - j) := hq
      clear hq
      obtain ⟨wo, rfl⟩ : ∃ wo, wo = wr := ⟨_, rfl⟩
      by_cases hlt : j < l.length
      · have j0 : (0 : Int) ≤ (j : Int) := by omega
        have j1 : (j : Int) < (l.length : Int) := by omega
        obtain ⟨b1, o1, x, rfl, hx, FA, hLx⟩ := HA.out.2.range hlt
        have HFA := Lib.hid FA
        clear FA
        go_wp2_with ((with_reducible refine at_list ?_); refine wpList_load_mid rfl 65 _ rfl _ _ rfl _ _ (HFA.out _ hwr) Try.underlying65 rfl mail_info ?_)
        refine (add_nob (.inl rfl) x).mono ?_
        rintro e w5 ⟨rfl, hb5⟩
        have hw5 := below_trans hwr hb5 hwr.size
        clear hwr hb5
        go_wp2_with fail
        go_roundg (l.length - (j + 1))
        case measure => have hkk := AA.out; omega
        case rel => exact ⟨j + 1, rfl, by omega, rfl, by go_num, hw5⟩
      · obtain rfl : j = l.length := by omega
        have j1 : ¬ (l.length : Int) < (l.length : Int) := by omega
        go_wp2_with fail
        go_loopg [12] 0 (fun q i wr => i = .int .i64 (-1) ∧ Below w.heap.size w wr)
        case atStart => exact ⟨rfl, hwr⟩
        case round =>
          clear hwr
          obtain ⟨rfl, hwr⟩ := hrel
          go_wp2_with fail
          refine (chosen_no (.inl rfl)).mono ?_
          rintro e w5 ⟨rfl, rfl⟩
          go_wp2_with fail
          refine (chosen_no (.inl rfl)).mono ?_
          rintro e w6 ⟨rfl, rfl⟩
          go_wp2_with fail
          refine (won_no (.inl rfl)).mono ?_
          rintro e w7 ⟨rfl, hb7⟩
          have hw7 := below_trans hwr hb7 hwr.size
          clear hb7
          go_wp2_with fail
          refine (won_no (.inl rfl)).mono ?_
          rintro e w8 ⟨rfl, hb8⟩
          have hw8 := below_trans hw7 hb8 hw7.size
          clear hb8
          go_wp2_with fail
          refine (samelog_of no0 no0 [] w8 LogAt.nil LogAt.nil).mono ?_
          rintro e w9 ⟨rfl, hb9⟩
          have hw9 := below_trans hw8 hb9 hw8.size
          clear hb9
          go_wp2_with fail
          refine (lives18_any _).mono ?_
          rintro e wa ⟨rfl, hba⟩
          have hwa := below_trans hw9 hba hw9.size
          go_wp2_with fail
          go_ret
          exact ⟨rfl, hwa⟩
  have H2 := Lib.hid (show Below w.heap.size w w2 ∧ Blk w2 w.heap.size 53 (begcells' b own s) ∧ BalAt w2 w.heap.size g b (put7 no7 b.site.toNat own) ∧ w1.heap.size ≤ g from ⟨below_trans H1.out.1 hb2 H1.out.1.size, H1.out.2.keep hb2, hB.base H1.out.1.size, hgw⟩)
  clear hb2 hB hgw f0 f1 f2 f3 f4
  obtain ⟨f0, f1, f2, f3, f4⟩ := FB _ H2.out.2.1
  go_wp2_with ((with_reducible refine at_list ?_); refine wpList_load_part rfl 24 _ rfl w.heap.size 5 rfl _ _ (rgv own s) H2.out.2.1 (begin_reg b own s) _ Try.underlying24 rfl rg_info ?_)
  refine (new_any b own s w2 (HA.out.1.keep H2.out.1) (by have := HF.out.1; omega)).mono ?_
  rintro e w3 (⟨_, h, rfl, hhw, hB3, hb3⟩ | ⟨hno, _⟩)
  case inr => exact absurd hok hno
  have hsn : sitesE b.n = true := hok.2.2.1
  obtain ⟨S0, hS0⟩ : ∃ S0, put7 no7 b.site.toNat own = S0 := ⟨_, rfl⟩
  have hreg0 : ∀ i, i < 7 → (regOf S0 i).log.length ≤ 64 := by
    rw [← hS0]
    exact regs_put (fun i _ => by simp [regOf, no7, reg0]) (mayR_len hok.2.2.2.2.2.2.1)
  rw [hS0] at H2 hB3
  have hal : Below w3.heap.size w3 (w3.alloc (.cells (onceV (fun _ => false)).toArray 60)) := (Below.refl _ _).alloc (Nat.le_refl _) _
  have H3 := Lib.hid (show OrdI w (w3.alloc (.cells (onceV (fun _ => false)).toArray 60)) g h w.heap.size w3.heap.size b own s S0 S0 (fun _ => false) [] (.slice none 0 0) from by
    obtain ⟨q1, q2, q3, q4⟩ := H2.out
    have z1 := q1.size
    have z2 := H1.out.1.size
    have z3 := hb3.size
    have k3 := q2.keep hb3
    refine ⟨(below_trans q1 hb3 z1).alloc (by omega) _, (q3.keep hb3).keep hal, (hB3.base z1).keep hal, k3.keep hal, Blk.new w3 _ _, Gr.Row.nil _ _, by omega, by omega, by omega, ?_⟩
    have := q3.lt
    omega)
  have HN := Lib.hid (And.intro hsn hok)
  have HR0 := Lib.hid hreg0
  have hlg : w.heap.size < w3.heap.size := by
    have z1 := H2.out.1.size
    have z3 := hb3.size
    have := H2.out.2.1.lt
    omega
  clear hb3 hB3 hhw H2 H1 hok hsn f0 f1 f2 f3 f4 hltb hal hS0 hreg0
  go_wp2_with fail
  generalize w3.heap.size = gn at *
  refine abs_code (fun W => OrdI w W g h w.heap.size gn b own s S0 S0 (fun _ => false) [] (.slice none 0 0)) H3.out ?_
  intro w4 h4
  have H4 := Lib.hid h4
  clear h4 H3
  try clear w3
  go_loopg [10, 11] l.length (fun q vv i wr => ∃ (j : Nat) (S : Slots) (f : Nat → Bool) (cs : List MailV), q = l.length - j ∧ j ≤ l.length ∧ i = .int .i64 j ∧ OrdI w wr g h w.heap.size gn b own s S S0 f cs vv ∧ OrdP w b S0 S f cs ∧ cs.length ≤ j)
  case atStart => exact ⟨0, S0, _, [], rfl, by omega, rfl, H4.out, ⟨cnt_nil b S0, (fun k hk => by cases hk), by simp, HR0.out⟩, by simp⟩
  case round =>
    clear H4
    obtain ⟨j, S, f, cs, hq, hj, rfl, hI, hP, hcj⟩ := hrel
    have AA : Aside (gk = l.length - j) := hq
    clear hq
    obtain ⟨wo, rfl⟩ : ∃ wo, wo = wr := ⟨_, rfl⟩
    have HI := Lib.hid (And.intro hI hP)
    clear hI hP
    by_cases hlt : j < l.length
    · have j0 : (0 : Int) ≤ (j : Int) := by omega
      have j1 : (j : Int) < (l.length : Int) := by omega
      have hj40 := HF.out.2.1
      obtain ⟨b1, o1, x, rfl, hx, FA, hLx⟩ := HA.out.2.range hlt
      have hx2 : x.m.ents.length ≤ 100 := HF.out.2.2 x (List.mem_of_getElem? hx.out)
      have HFA := Lib.hid FA
      clear FA
      go_wp2_with ((with_reducible refine at_list ?_); refine wpList_load_mid rfl 65 _ rfl _ _ rfl _ _ (HFA.out _ HI.out.1.1) Try.underlying65 rfl mail_info ?_)
      refine (add_any w.heap.size g b S x wo HI.out.1.2.1 HI.out.1.1.size HN.out.1 (hLx.out.keep HI.out.1.1) (by omega)).mono ?_
      rintro e w5 hA5
      obtain ⟨rfl, hI5⟩ := HI.out.1.addG hA5
      by_cases hok : addOk b S x.m
      case neg =>
        rw [addS_no hok] at hI5
        have HI5 := Lib.hid (And.intro hI5 HI.out.2)
        have hd : decide (addOk b S x.m) = false := decide_eq_false hok
        rw [hd]
        clear hI5 hA5 HI hok hd
        go_wp2_with fail
        go_roundg (l.length - (j + 1))
        case measure => have hkk := AA.out; omega
        case rel => exact ⟨j + 1, S, f, cs, rfl, by omega, by go_num, HI5.out.1, HI5.out.2, by omega⟩
      have hd : decide (addOk b S x.m) = true := decide_eq_true hok
      rw [hd]
      have hfr := addOk_n hok
      have hs2 := sites_cases HN.out.1
      obtain ⟨K, hK⟩ := Int.eq_ofNat_of_zero_le hfr.1
      have hK7 : K < 7 := by omega
      have hkey : keyM x.m = K := by unfold keyM; omega
      have hfK : f K = false := by
        cases hc : f K with
        | false => rfl
        | true =>
          obtain ⟨y, hy, he⟩ := HI.out.2.2.1 K hc
          exact absurd (by rw [he, hkey]) (cnt_fresh HI.out.2.1 hok y.m (List.mem_map_of_mem hy))
      have hP5 : OrdP w b S0 (addS b S x.m) (onceUp f K) (cs ++ [x]) := by
        obtain ⟨p1, p2, p3, p4⟩ := HI.out.2
        refine ⟨?_, fun k hk => ?_, fun y hy => ?_, regs_add p4⟩
        · rw [List.map_append]
          exact cnt_add p1 hok
        · unfold onceUp at hk
          by_cases hkk : k = K
          · subst hkk
            exact ⟨x, by simp, hkey⟩
          · rw [if_neg hkk] at hk
            obtain ⟨y, hy, he⟩ := p2 k hk
            exact ⟨y, by simp [hy], he⟩
        · rcases List.mem_append.1 hy with hy | hy
          · exact p3 y hy
          · obtain rfl : y = x := by simpa using hy
            exact ⟨hLx.out, hx2⟩
      have hM := hI5.mark hK7
      have hbk : Blk w5 gn 60 (onceV f) := hI5.2.2.2.2.1
      have oc : w5.cell? ⟨gn, K, none⟩ = some (.bool false) := by
        rw [hbk.cell, onceV_at f hK7, hfK]
      have ofr : w5.frozen? ⟨gn, K, none⟩ = false := hbk.frozen K
      have c1 : w5.cell? ⟨b1, o1 + j * 18 + 1, none⟩ = some (.int .i64 (K : Int)) := by
        rw [← hK]
        exact HFA.out _ hI5.1 1 _ rfl
      have c2 : (w5.setCell ⟨gn, K, none⟩ (.bool true)).cell? ⟨b1, o1 + j * 18 + 1, none⟩ = some (.int .i64 (K : Int)) := by
        rw [← hK]
        exact HFA.out _ hM.1 1 _ rfl
      have hrl : (w5.setCell ⟨gn, K, none⟩ (.bool true)).rangeAt b1 (o1 + j * 18) [.int .i64 x.m.kind, .int .i64 x.m.from_, .int .i64 x.m.to, .int .i64 x.m.stream, .int .i64 x.m.epoch, .int .i64 x.m.view, .int .i64 x.m.base, .int .i64 x.m.len, .int .i64 x.m.stamp, .slice x.es.1 x.es.2.1 x.es.2.2, .int .i64 x.o.1, .int .i64 x.o.2.1, .int .i64 x.o.2.2.1, .int .i64 x.o.2.2.2.1, .int .i64 x.o.2.2.2.2, .int .i64 x.an.1, .int .i64 x.an.2.1, .int .i64 x.an.2.2] := HFA.out _ hM.1
      have hRm := hM.2.2.2.2.2.1
      obtain ⟨v2, w6, hrun, hR6, hg6, _⟩ := Gr.Row.snoc hRm x (by omega) hM.1.size (H := w5.heap.size) (by simp) 54
      have hI6 := hM.push hg6 hR6
      have hrun' : (Builtin.append_ #[54, 54] 54 #[u10, .slice (some ⟨w5.heap.size, 0, none⟩) 1 1]).run Try.prog ((w5.setCell ⟨gn, K, none⟩ (.bool true)).alloc (.cells #[.int .i64 x.m.kind, .int .i64 x.m.from_, .int .i64 x.m.to, .int .i64 x.m.stream, .int .i64 x.m.epoch, .int .i64 x.m.view, .int .i64 x.m.base, .int .i64 x.m.len, .int .i64 x.m.stamp, .slice x.es.1 x.es.2.1 x.es.2.2, .int .i64 x.o.1, .int .i64 x.o.2.1, .int .i64 x.o.2.2.1, .int .i64 x.o.2.2.2.1, .int .i64 x.o.2.2.2.2, .int .i64 x.an.1, .int .i64 x.an.2.1, .int .i64 x.an.2.2] 65)) = .ok v2 w6 := hrun
      have HI6 := Lib.hid (And.intro hI6 hP5)
      have k0 : (0 : Int) ≤ (K : Int) := by omega
      have k1 : (K : Int) < 7 := by omega
      have HRL := Lib.hid hrl
      clear hI5 hA5 HI hok hd hfr hs2 hK hkey hfK hP5 hM hbk hRm hrun hR6 hg6 hI6 hrl
      go_wp2_with ((with_reducible refine at_list ?_); first | (refine wpList_load_mid rfl 65 _ rfl _ _ rfl _ _ HRL.out Try.underlying65 rfl mail_info ?_) | (at_builtin; refine wpList_app rfl (by rfl) (by rfl) (by rfl) hrun' ?_))
      go_roundg (l.length - (j + 1))
      case measure => have hkk := AA.out; omega
      case rel => exact ⟨j + 1, _, _, cs ++ [x], rfl, by omega, by go_num, HI6.out.1, HI6.out.2, by simp; omega⟩
    · obtain rfl : j = l.length := by omega
      have j1 : ¬ (l.length : Int) < (l.length : Int) := by omega
      have hj40 := HF.out.2.1
      obtain ⟨A6, c6, hv6, _, _, _⟩ := Gr.Row.form HI.out.1.2.2.2.2.2.1
      subst hv6
      have hn0 : 0 ≤ (cs.length : Int) ∧ (cs.length : Int) ≤ 40 := by omega
      go_wp2_with fail
      go_loopg [12] cs.length (fun q i wr => ∃ (t : Nat) (T : Slots), q = t ∧ t ≤ cs.length ∧ i = .int .i64 ((t : Int) - 1) ∧ OrdI w wr g h w.heap.size gn b own s S T f cs (.slice A6 cs.length c6) ∧ Puts S0 ((cs.map (·.m)).drop t) T)
      case atStart => exact ⟨cs.length, S0, rfl, Nat.le_refl _, rfl, HI.out.1, by rw [List.drop_of_length_le (by simp)]; exact puts_nil S0⟩
      case round =>
        obtain ⟨t, T, hq, ht, rfl, hI, hT⟩ := hrel
        have HIT := Lib.hid (And.intro hI (And.intro hT HI.out.2))
        have AA : Aside (gk = t) := hq
        clear hq hI hT HI
        obtain ⟨wp, rfl⟩ : ∃ wp, wp = wr := ⟨_, rfl⟩
        cases t with
        | succ k =>
          rw [show (((k + 1 : Nat) : Int) - 1) = (k : Int) by omega]
          have k0 : ¬ (k : Int) < 0 := by omega
          have k0' : (0 : Int) ≤ (k : Int) := by omega
          have k1 : (k : Int) < (cs.length : Int) := by omega
          have k2 : (k : Int) ≤ 40 := by omega
          obtain ⟨x, hx⟩ := at_some (show k < cs.length by omega)
          have hxm : (cs.map (·.m))[k]? = some x.m := by rw [List.getElem?_map, hx]; rfl
          obtain ⟨hlx, hx2⟩ := HIT.out.2.2.2.2.1 x (List.mem_of_getElem? hx)
          obtain ⟨hok, hT'⟩ := cnt_back HIT.out.2.2.1 hxm HIT.out.2.1
          obtain ⟨b6, o6, rfl, hr6⟩ := row_range HIT.out.1.2.2.2.2.2.1 hx
          have HX := Lib.hid (And.intro hx (And.intro hlx (And.intro hok hT')))
          clear hx hxm hlx hok hT'
          go_wp2_with ((with_reducible refine at_list ?_); refine wpList_load_mid rfl 65 _ rfl _ _ rfl _ _ hr6 Try.underlying65 rfl mail_info ?_)
          refine (add_any w.heap.size h b T x wp HIT.out.1.2.2.1 HIT.out.1.1.size HN.out.1 (HX.out.2.1.keep HIT.out.1.1) (by omega)).mono ?_
          rintro e w5 hA5
          obtain ⟨rfl, hI5⟩ := HIT.out.1.addH hA5
          have hd : decide (addOk b T x.m) = true := decide_eq_true HX.out.2.2.1
          rw [hd]
          have HI5 := Lib.hid (And.intro hI5 HIT.out.2.2)
          clear hd hI5 hA5 hr6 HIT
          obtain ⟨b7, o7, he7, hr7⟩ := row_range HI5.out.1.2.2.2.2.2.1 HX.out.1
          cases he7
          go_wp2_with ((with_reducible refine at_list ?_); refine wpList_load_range_g 65 _ rfl rfl _ _ rfl _ _ hr7 Try.underlying65 rfl mail_info ?_)
          have htw := addS_twice HX.out.2.2.1
          refine (add_any w.heap.size h b (addS b T x.m) x w5 HI5.out.1.2.2.1 HI5.out.1.1.size HN.out.1 (HX.out.2.1.keep HI5.out.1.1) (by omega)).mono ?_
          rintro e w6 hA6
          obtain ⟨rfl, hI6⟩ := HI5.out.1.addH hA6
          rw [addS_no htw] at hI6
          have hd : decide (addOk b (addS b T x.m) x.m) = false := decide_eq_false htw
          rw [hd]
          have HI6 := Lib.hid (And.intro hI6 HI5.out.2)
          clear hd hI6 hA6 hr7 HI5 htw
          go_wp2_with fail
          go_roundg k
          case measure => have hkk := AA.out; omega
          case rel => exact ⟨k, addS b T x.m, rfl, by omega, rfl, HI6.out.1, HX.out.2.2.2⟩
        | zero =>
          have hST : S = T := cnt_end HIT.out.2.2.1 (by have := HIT.out.2.1; rwa [List.drop_zero] at this)
          subst hST
          rw [show (((0 : Nat) : Int) - 1) = -1 by omega]
          go_wp2_with fail
          refine (chosen_any w.heap.size g b S wp HIT.out.1.2.1 HN.out.1 HIT.out.2.2.2.2.2).mono ?_
          rintro e w5 ⟨v5, rfl, hR5, hb5⟩
          have HI5 := Lib.hid (And.intro (HIT.out.1.keep hb5) HIT.out.2.2)
          obtain ⟨⟨lg, cm, er⟩, hz⟩ : ∃ z, chosenS b S = z := ⟨_, rfl⟩
          have hz1 := hz
          rw [hz] at hR5 ⊢
          obtain ⟨s5, rfl, hL5⟩ := hR5.log
          have HL5 := Lib.hid hL5
          clear hL5 hR5 hb5 HIT
          have HZ := Lib.hid hz
          clear hz hz1
          go_wp2_with fail
          have hc2 := chosen_any w.heap.size h b S w5 HI5.out.1.2.2.1 HN.out.1 HI5.out.2.2.2.2
          rw [HZ.out] at hc2
          refine hc2.mono ?_
          clear hc2
          rintro e w6 ⟨v6, rfl, hR6, hb6⟩
          obtain ⟨s6, rfl, hL6⟩ := hR6.log
          have HI6 := Lib.hid (HI5.out.1.keep hb6)
          have HL6 := Lib.hid (And.intro (HL5.out.keep hb6) hL6)
          clear hL6 hR6 hb6 HI5 HL5
          have hnb : b.n ≠ 0 := by rcases sites_cases HN.out.1 with e | e | e | e | e | e <;> omega
          obtain ⟨sl6, hbk6, _⟩ := HI6.out.2.1
          have hwn := won_any g b S sl6 w6 hbk6 hnb
          obtain ⟨wn, hwe⟩ : ∃ wn, wonS b S = wn := ⟨_, rfl⟩
          rw [hwe] at hwn
          have HWN := Lib.hid hwn
          have HWE := Lib.hid hwe
          clear hwn hwe hbk6
          go_wp2_with fail
          refine HWN.out.mono ?_
          rintro e w7 ⟨rfl, hb7⟩
          have HI7 := Lib.hid (HI6.out.keep hb7)
          have HL7 := Lib.hid (And.intro (HL6.out.1.keep hb7) (HL6.out.2.keep hb7))
          clear HWN HI6 HL6 hb7
          obtain ⟨sl7, hbk7, _⟩ := HI7.out.2.2.1
          have hwn := won_any h b S sl7 w7 hbk7 hnb
          rw [HWE.out] at hwn
          have HWN := Lib.hid hwn
          clear hwn hbk7
          go_wp2_with fail
          refine HWN.out.mono ?_
          rintro e w8 ⟨rfl, hb8⟩
          have HI8 := Lib.hid (HI7.out.keep hb8)
          have HL8 := Lib.hid (And.intro (HL7.out.1.keep hb8) (HL7.out.2.keep hb8))
          clear HWN HI7 HL7 hb8
          have e1 : (wn == wn) = true := by simp
          have e2 : (cm == cm) = true := by simp
          have e3 : (er == er) = true := by simp
          go_wp2_with fail
          refine (samelog_of s5 s6 lg w8 HL8.out.1 HL8.out.2).mono ?_
          rintro e w9 ⟨rfl, hb9⟩
          have HI9 := Lib.hid (HI8.out.keep hb9)
          clear HI8 HL8 hb9
          go_wp2_with fail
          refine (lives18_any _).mono ?_
          rintro e wa ⟨rfl, hba⟩
          have HIa := Lib.hid (HI9.out.keep hba)
          clear hba
          go_wp2_with fail
          go_ret
          exact ⟨rfl, HIa.out.1⟩
end Go.Proofs.Ytbicefilfhcgoaa

set_option linter.unusedSimpArgs false
set_option linter.unusedVariables false
set_option maxRecDepth 100000
namespace Go.Sq
open Go Go.ChangeShapes Go.WideShapes Go.RowKit Go.Deep
section
variable {H : Type} {enc : TypeId × Value → H} {P : Program} {w : World} {base : Nat} {spare : Nat → Bool} {held : Bool}
theorem open_rows_in {k : Nat} {t e : TypeId} {C : Nat} {v : Value} {y : DataW H × List MemPlace} (ht : P.underlying t = some (.slice e))
    (hC : P.cellsOf e = C) (hpos : 0 < C) (h : DataW.trod enc P w base spare held k t [v] = some y) :
    ∃ (a : Option Addr) (len cap : Nat), v = .slice a len cap ∧ len ≤ cap ∧ cap ≤ maxLen ∧ (0 < len → ∃ b off, a = some ⟨b, off, none⟩ ∧ b < w.heap.size ∧ ∀ i, i < len →
      ∃ (cs : List Value) (n : Nat) (y : DataW H × List MemPlace), cs.length = C ∧ (∀ k, k < C → w.cell? ⟨b, off + i * C + k, none⟩ = cs[k]?) ∧ DataW.trod enc P w base spare held n e cs = some y) := by
  rcases open_slice ht h with ⟨hcs, _⟩ | ⟨a, l, c, m, n, D, Pl, hcs, _, hl, hm, hmm, _, hi⟩
  · cases hcs
    exact ⟨none, 0, 0, rfl, Nat.le_refl _, by simp [maxLen], fun h => absurd h (by omega)⟩
  · cases hcs
    refine ⟨some a, l, c, rfl, hl, hm, fun hlen => ?_⟩
    obtain ⟨b, off, rfl, hbl⟩ : ∃ b off, a = ⟨b, off, none⟩ ∧ b < w.heap.size := by
      obtain ⟨cs', hc, _⟩ := hi 0 (by rw [hmm]; split <;> omega)
      rw [hC] at hc
      obtain ⟨_, hcl, hat⟩ := World.cells?_some hc
      have h0 := hat 0 hpos
      rw [List.getElem?_eq_getElem (show 0 < cs'.length by omega)] at h0
      have hsp : a.spot = none := by simpa [Addr.add] using World.cell?_spot h0
      have hbl := World.block_lt_of_cell? _ _ h0
      rw [add_block, add_block] at hbl
      obtain ⟨b, off, spot⟩ := a
      obtain rfl : spot = none := hsp
      exact ⟨b, off, rfl, hbl⟩
    refine ⟨b, off, rfl, hbl, fun i hil => ?_⟩
    obtain ⟨cs', hc, ht'⟩ := hi i (by rw [hmm]; split <;> omega)
    rw [hC] at hc
    obtain ⟨_, hcl, hat⟩ := World.cells?_some hc
    refine ⟨cs', n, _, hcl, fun k hk => ?_, ht'⟩
    have h3 := hat k hk
    rw [add_none, add_none] at h3
    exact h3
end
end Go.Sq

set_option linter.unusedSimpArgs false
set_option linter.unusedVariables false
set_option maxRecDepth 100000
namespace Go.Proofs.Ytbicefilfhcgoaa
open Go Go.ChangeShapes Go.WideShapes Go.RowKit Go.Deep Go.Sq Go.Wd Go.Arch
section
variable {H : Type} {enc : TypeId × Value → H} {w : World} {base : Nat} {spare : Nat → Bool} {held : Bool}

theorem open_log {k : Nat} {v : Value} {y : DataW H × List MemPlace} (h : DataW.trod enc Try.prog w base spare held k 22 [v] = some y) :
    ∃ (sl : SlcE) (es : List Ent), v = .slice sl.1 sl.2.1 sl.2.2 ∧ LogAt w w.heap.size sl es ∧ ∀ e ∈ es, wfEnt e := by
  obtain ⟨A, len, cap, rfl, h1, h2, h3⟩ := open_rows_in Try.underlying22 (C := 6) (by kernel_rfl) (by omega) h
  have h2' : cap ≤ 9223372036854775807 := by simp only [maxLen] at h2; omega
  rcases Nat.eq_zero_or_pos len with h0 | h0
  · subst h0
    exact ⟨(A, 0, cap), [], rfl, ⟨rfl, h1, h2', Ents.nil⟩, by simp⟩
  · obtain ⟨b, off, rfl, hb, hrow⟩ := h3 h0
    obtain ⟨l, hl, hp⟩ := list_of (p := fun i e => EntAt w b (off + i * 6) e ∧ wfEnt e) len (fun i hi => by
      obtain ⟨cs, n, y, hcl, hcell, ht⟩ := hrow i hi
      obtain ⟨e, rfl, hw⟩ := open_ent ht
      exact ⟨e, ⟨hcell 0 (by omega), hcell 1 (by omega), hcell 2 (by omega), hcell 3 (by omega), hcell 4 (by omega), hcell 5 (by omega)⟩, hw⟩)
    subst hl
    refine ⟨(some ⟨b, off, none⟩, l.length, cap), l, rfl, ⟨rfl, h1, h2', fun _ => ⟨b, off, rfl, hb, fun i e he => (hp i e he).1⟩⟩, fun e he => ?_⟩
    obtain ⟨i, hi⟩ := List.getElem?_of_mem he
    exact (hp i e hi).2
theorem open_any_slice {k : Nat} {t e : TypeId} {v : Value} {y : DataW H × List MemPlace} (ht : Try.prog.underlying t = some (.slice e)) (h : DataW.trod enc Try.prog w base spare held k t [v] = some y) : ∃ sl : SlcE, v = .slice sl.1 sl.2.1 sl.2.2 := by
  rcases open_slice ht h with ⟨hcs, _⟩ | ⟨a, l, c, m, n, D, Pl, hcs, _⟩
  · cases hcs
    exact ⟨(none, 0, 0), rfl⟩
  · cases hcs
    exact ⟨(some a, l, c), rfl⟩
theorem rec_fields {fs : Array Field} (hs : Try.prog.underlying 27 = some (.struct fs)) {n : Nat} {cs : List Value} (hl : cs.length = fs.size)
    (hf : ∀ (j : Nat) (f : Field), fs[j]? = some f → ∃ (c : Value) (y : DataW H × List MemPlace), cs[j]? = some c ∧ DataW.trod enc Try.prog w base spare held n f.type [c] = some y) :
    ∃ x : RecV, cs = rcv x ∧ LogAt w w.heap.size x.es x.ents ∧ ∀ e ∈ x.ents, wfEnt e := by
  rw [Try.underlying27] at hs
  cases hs
  obtain ⟨c0, c1, c2, c3, c4, c5, c6, c7, rfl⟩ := len8 hl
  obtain ⟨_, _, e0, t0⟩ := hf 0 _ rfl
  obtain ⟨_, _, e1, t1⟩ := hf 1 _ rfl
  obtain ⟨_, _, e2, t2⟩ := hf 2 _ rfl
  obtain ⟨_, _, e3, t3⟩ := hf 3 _ rfl
  obtain ⟨_, _, e4, t4⟩ := hf 4 _ rfl
  obtain ⟨_, _, e5, t5⟩ := hf 5 _ rfl
  obtain ⟨_, _, e6, t6⟩ := hf 6 _ rfl
  obtain ⟨_, _, e7, t7⟩ := hf 7 _ rfl
  cases e0; cases e1; cases e2; cases e3; cases e4; cases e5; cases e6; cases e7
  obtain ⟨z0, q0, _, _⟩ := DataW.trod_int Try.underlying3 t0
  obtain ⟨z1, q1, _, _⟩ := DataW.trod_int Try.underlying3 t1
  obtain ⟨z2, q2, _, _⟩ := DataW.trod_int Try.underlying3 t2
  obtain ⟨z3, q3, _, _⟩ := DataW.trod_int Try.underlying3 t3
  obtain ⟨z4, q4, _, _⟩ := DataW.trod_int Try.underlying3 t4
  obtain ⟨z5, q5, _, _⟩ := DataW.trod_int Try.underlying3 t5
  cases q0; cases q1; cases q2; cases q3; cases q4; cases q5
  obtain ⟨sl, es, rfl, hE, hw⟩ := open_log t6
  obtain ⟨fs, rfl⟩ := open_any_slice Try.underlying25 t7
  exact ⟨⟨z0, z1, z2, z3, z4, z5, sl, es, fs⟩, rfl, hE, hw⟩
theorem reg_fields {fs : Array Field} (hs : Try.prog.underlying 24 = some (.struct fs)) {n : Nat} {cs : List Value} (hl : cs.length = fs.size)
    (hf : ∀ (j : Nat) (f : Field), fs[j]? = some f → ∃ (c : Value) (y : DataW H × List MemPlace), cs[j]? = some c ∧ DataW.trod enc Try.prog w base spare held n f.type [c] = some y) :
    ∃ (r : RegS) (sl : SlcE), cs = rgv r sl ∧ LogAt w w.heap.size sl r.log ∧ ∀ e ∈ r.log, wfEnt e := by
  rw [Try.underlying24] at hs
  cases hs
  obtain ⟨c0, c1, c2, c3, rfl⟩ := len4 hl
  obtain ⟨_, _, e0, t0⟩ := hf 0 _ rfl
  obtain ⟨_, _, e1, t1⟩ := hf 1 _ rfl
  obtain ⟨_, _, e2, t2⟩ := hf 2 _ rfl
  obtain ⟨_, _, e3, t3⟩ := hf 3 _ rfl
  cases e0; cases e1; cases e2; cases e3
  obtain ⟨z0, q0, _, _⟩ := DataW.trod_int Try.underlying3 t0
  obtain ⟨z1, q1, _, _⟩ := DataW.trod_int Try.underlying3 t1
  obtain ⟨z3, q3, _, _⟩ := DataW.trod_int Try.underlying3 t3
  cases q0; cases q1; cases q3
  obtain ⟨sl, es, rfl, hE, hw⟩ := open_log t2
  exact ⟨⟨z0, z1, es, z3⟩, sl, rfl, hE, hw⟩
theorem open_rec_cells {n : Nat} {cs : List Value} {y : DataW H × List MemPlace} (h : DataW.trod enc Try.prog w base spare held n 27 cs = some y) : ∃ x : RecV, cs = rcv x ∧ LogAt w w.heap.size x.es x.ents ∧ ∀ e ∈ x.ents, wfEnt e := by
  obtain ⟨hl, m, hf⟩ := cells_fields Try.underlying27 (by kernel_rfl) (by kernel_rfl) h
  exact rec_fields Try.underlying27 hl hf
theorem open_rec {r : Reach} {b0 : Nat} {v : Value} {d : DataW H} {p : List MemPlace} (hv : Value.okWide Try.prog w r b0 27 v) (h : DataW.Trod enc Try.prog w base spare held 27 v d p) :
    ∃ x : RecV, v = .agg (rcv x).toArray ∧ LogAt w w.heap.size x.es x.ents ∧ ∀ e ∈ x.ents, wfEnt e := by
  obtain ⟨l, m, rfl, hl, hf⟩ := open_fields Try.underlying27 (by kernel_rfl) (by kernel_rfl) hv h
  obtain ⟨x, rfl, hx⟩ := rec_fields Try.underlying27 hl hf
  exact ⟨x, rfl, hx⟩
theorem open_register {r : Reach} {b0 : Nat} {v : Value} {d : DataW H} {p : List MemPlace} (hv : Value.okWide Try.prog w r b0 24 v) (h : DataW.Trod enc Try.prog w base spare held 24 v d p) :
    ∃ (r : RegS) (sl : SlcE), v = .agg (rgv r sl).toArray ∧ LogAt w w.heap.size sl r.log ∧ ∀ e ∈ r.log, wfEnt e := by
  obtain ⟨l, m, rfl, hl, hf⟩ := open_fields Try.underlying24 (by kernel_rfl) (by kernel_rfl) hv h
  obtain ⟨x, sl, rfl, hx⟩ := reg_fields Try.underlying24 hl hf
  exact ⟨x, sl, rfl, hx⟩
theorem open_recs {r : Reach} {b0 : Nat} {v : Value} {d : DataW H} {p : List MemPlace} (hv : Value.okWide Try.prog w r b0 35 v) (h : DataW.Trod enc Try.prog w base spare held 35 v d p) :
    ∃ (A : Option Addr) (l : List RecV) (c : Nat), v = .slice A l.length c ∧ l.length ≤ c ∧ c ≤ 9223372036854775807 ∧ Recs w w.heap.size A l := by
  obtain ⟨A, len, cap, rfl, h1, h2, h3⟩ := open_rows_any Try.underlying35 (C := 8) (by kernel_rfl) (by omega) hv h
  have h2' : cap ≤ 9223372036854775807 := by simp only [maxLen] at h2; omega
  rcases Nat.eq_zero_or_pos len with h0 | h0
  · subst h0
    exact ⟨A, [], cap, rfl, h1, h2', by simp, fun h => absurd h (by simp)⟩
  · obtain ⟨b, off, rfl, hb, hrow⟩ := h3 h0
    obtain ⟨l, hl, hp⟩ := list_of (p := fun i e => RecAt w b (off + i * 8) e ∧ LogAt w w.heap.size e.es e.ents) len (fun i hi => by
      obtain ⟨cs, n, y, hcl, hcell, ht⟩ := hrow i hi
      obtain ⟨x, rfl, hE, _⟩ := open_rec_cells ht
      exact ⟨x, ⟨hcell 0 (by omega), hcell 1 (by omega), hcell 2 (by omega), hcell 3 (by omega), hcell 4 (by omega), hcell 5 (by omega), hcell 6 (by omega), hcell 7 (by omega)⟩, hE⟩)
    subst hl
    refine ⟨_, l, cap, rfl, h1, h2', fun x hx => ?_, fun _ => ⟨b, off, rfl, hb, fun i e he => (hp i e he).1⟩⟩
    obtain ⟨i, hi⟩ := List.getElem?_of_mem hx
    exact (hp i x hi).2
end
end Go.Proofs.Ytbicefilfhcgoaa

set_option linter.unusedSimpArgs false
set_option linter.unusedVariables false
set_option maxRecDepth 100000
namespace Go.Sq
open Go Go.ChangeShapes Go.WideShapes Go.RowKit Go.Deep
section
variable {H : Type} {enc : TypeId × Value → H} {P : Program} {w : World} {base : Nat} {spare : Nat → Bool} {held : Bool}

theorem ints_of {n k : Nat} {t : TypeId} {fs : Array Field} {l : List Value} {x : DataW H × List MemPlace} (hs : P.underlying t = some (.struct fs)) (hone : oneCellFields P fs = true)
    (hC : P.cellsOf t = fs.size) (h5 : fs.size = k) (hty : ∀ (j : Nat) (f : Field), fs[j]? = some f → P.underlying f.type = some (.int .i64)) (h : DataW.trod enc P w base spare held n t l = some x) :
    ∃ zs : List Int, zs.length = k ∧ l = zs.map (.int .i64) ∧ ∀ z ∈ zs, (Lit.int .i64 z).wf = true := by
  obtain ⟨hl, m, hf⟩ := cells_fields hs hone hC h
  rw [h5] at hl
  obtain ⟨zs, hz, hp⟩ := list_of (p := fun i z => l[i]? = some (.int .i64 z) ∧ (Lit.int .i64 z).wf = true) k (fun j hj => by
    have hj' : j < fs.size := by omega
    obtain ⟨c', y, h1, h2⟩ := hf j _ (Array.getElem?_eq_getElem hj')
    obtain ⟨z, hz, _, hw⟩ := DataW.trod_int (hty j _ (Array.getElem?_eq_getElem hj')) h2
    obtain rfl : c' = .int .i64 z := by simpa using hz
    exact ⟨z, h1, hw⟩)
  refine ⟨zs, hz, List.ext_getElem? (fun i => ?_), fun z hzm => ?_⟩
  · rw [List.getElem?_map]
    by_cases hi : i < k
    · have := (hp i zs[i] (List.getElem?_eq_getElem (by omega))).1
      rw [this, List.getElem?_eq_getElem (by omega)]
      rfl
    · rw [List.getElem?_eq_none (by omega), List.getElem?_eq_none (by omega)]
      rfl
  · obtain ⟨i, hi, rfl⟩ := List.mem_iff_getElem.1 hzm
    exact (hp i _ (List.getElem?_eq_getElem hi)).2
end
end Go.Sq

set_option linter.unusedSimpArgs false
set_option linter.unusedVariables false
set_option maxRecDepth 100000
namespace Go.Sq
open Go Go.ChangeShapes Go.WideShapes Go.RowKit Go.Deep
section
variable {H : Type} {enc : TypeId × Value → H} {P : Program} {w : World} {base : Nat} {spare : Nat → Bool} {held : Bool} {α : Type}

theorem open_sl_in (R : Gr.Enc P α) {q : α → Prop} {k : Nat} {v : Value} {y : DataW H × List MemPlace} (hC : P.cellsOf R.elem = R.size)
    (hdec : ∀ (n : Nat) (cs : List Value) (y : DataW H × List MemPlace), DataW.trod enc P w base spare held n R.elem cs = some y → ∃ a, cs = R.enc a ∧ q a)
    (h : DataW.trod enc P w base spare held k R.slice [v] = some y) :
    ∃ (A : Option Addr) (l : List α) (c : Nat), v = .slice A l.length c ∧ l.length ≤ c ∧ c ≤ 9223372036854775807 ∧ Gr.Sl R w w.heap.size A l ∧ (∀ a ∈ l, q a) ∧ (A = none → c = 0) := by
  obtain ⟨A, len, cap, rfl, h1, h2, h3⟩ := open_rows_in R.und hC R.pos h
  have h2' : cap ≤ 9223372036854775807 := by simp only [maxLen] at h2; omega
  have hnil : A = none → cap = 0 := fun e => by
    subst e
    rcases open_slice R.und h with ⟨hcs, _⟩ | ⟨a, l, c, m, n, D, Pl, hcs, _⟩
    · injection hcs with hcs
      injection hcs
    · injection hcs with hcs
      injection hcs with h
      cases h
  rcases Nat.eq_zero_or_pos len with h0 | h0
  · subst h0
    exact ⟨A, [], cap, rfl, h1, h2', Gr.Sl.nil, by simp, hnil⟩
  · obtain ⟨b, off, rfl, hb, hrow⟩ := h3 h0
    obtain ⟨l, hl, hp⟩ := list_of (p := fun i e => Gr.At R w b (off + i * R.size) e ∧ q e) len (fun i hi => by
      obtain ⟨cs, n, y, hcl, hcell, ht⟩ := hrow i hi
      obtain ⟨a, rfl, hq⟩ := hdec n cs y ht
      exact ⟨a, fun k hk => hcell k hk, hq⟩)
    subst hl
    refine ⟨some ⟨b, off, none⟩, l, cap, rfl, h1, h2', fun _ => ⟨b, off, rfl, hb, fun i e he => (hp i e he).1⟩, fun a ha => ?_, hnil⟩
    obtain ⟨i, hi⟩ := List.getElem?_of_mem ha
    exact (hp i a hi).2
theorem open_sl (R : Gr.Enc P α) {q : α → Prop} {r : Reach} {b0 : Nat} {v : Value} {d : DataW H} {p : List MemPlace} (hC : P.cellsOf R.elem = R.size)
    (hdec : ∀ (n : Nat) (cs : List Value) (y : DataW H × List MemPlace), DataW.trod enc P w base spare held n R.elem cs = some y → ∃ a, cs = R.enc a ∧ q a)
    (hv : Value.okWide P w r b0 R.slice v) (h : DataW.Trod enc P w base spare held R.slice v d p) :
    ∃ (A : Option Addr) (l : List α) (c : Nat), v = .slice A l.length c ∧ l.length ≤ c ∧ c ≤ 9223372036854775807 ∧ Gr.Sl R w w.heap.size A l ∧ (∀ a ∈ l, q a) ∧ (A = none → c = 0) := by
  obtain ⟨a0, len, cap, rfl⟩ := okWide_slice R.und hv
  obtain ⟨fuel, hf⟩ := h
  exact open_sl_in R hC hdec (by simpa [Value.cells] using hf)
end
end Go.Sq

set_option linter.unusedSimpArgs false
set_option linter.unusedVariables false
set_option maxRecDepth 100000
namespace Go.Proofs.Ytbicefilfhcgoaa
open Go Go.ChangeShapes Go.WideShapes Go.RowKit Go.Deep Go.Sq Go.Wd Go.Arch
section
variable {H : Type} {enc : TypeId × Value → H} {w : World} {base : Nat} {spare : Nat → Bool} {held : Bool}

theorem len18 {α : Type} {l : List α} (h : l.length = 18) : ∃ a0 a1 a2 a3 a4 a5 a6 a7 a8 a9 b0 b1 b2 b3 b4 b5 b6 b7, l = [a0, a1, a2, a3, a4, a5, a6, a7, a8, a9, b0, b1, b2, b3, b4, b5, b6, b7] := by
  match l, h with
  | [a0, a1, a2, a3, a4, a5, a6, a7, a8, a9, b0, b1, b2, b3, b4, b5, b6, b7], _ => exact ⟨a0, a1, a2, a3, a4, a5, a6, a7, a8, a9, b0, b1, b2, b3, b4, b5, b6, b7, rfl⟩

set_option maxHeartbeats 2000000 in
theorem open_mail {n : Nat} {cs : List Value} {y : DataW H × List MemPlace} (h : DataW.trod enc Try.prog w base spare held n 65 cs = some y) : ∃ x : MailV, cs = mailv x ∧ LogAt w w.heap.size x.es x.m.ents := by
  have hC : Try.prog.cellsOf 65 = 18 := by kernel_rfl
  have hCi : Try.prog.cellsOf 3 = 1 := by kernel_rfl
  have hCe : Try.prog.cellsOf 22 = 1 := by kernel_rfl
  have hCo : Try.prog.cellsOf 42 = 5 := by kernel_rfl
  have hCa : Try.prog.cellsOf 63 = 3 := by kernel_rfl
  obtain ⟨xs, m, _, _, hl, hlen, hg⟩ := DataW.trod_struct Try.underlying65 h
  rw [hC] at hl
  obtain ⟨c0, c1, c2, c3, c4, c5, c6, c7, c8, c9, b0, b1, b2, b3, b4, b5, b6, b7, rfl⟩ := len18 hl
  have hx : xs.length = 12 := hlen
  have h0 := hg 0 _ rfl
  have h1 := hg 1 _ rfl
  have h2 := hg 2 _ rfl
  have h3 := hg 3 _ rfl
  have h4 := hg 4 _ rfl
  have h5 := hg 5 _ rfl
  have h6 := hg 6 _ rfl
  have h7 := hg 7 _ rfl
  have h8 := hg 8 _ rfl
  have h9 := hg 9 _ rfl
  have h10 := hg 10 _ rfl
  have h11 := hg 11 _ rfl
  simp only [List.getElem_toArray, List.getElem_cons_zero, List.getElem_cons_succ] at h0 h1 h2 h3 h4 h5 h6 h7 h8 h9 h10 h11
  rw [hCi] at h0
  rw [hCi] at h1
  rw [hCi] at h2
  rw [hCi] at h3
  rw [hCi] at h4
  rw [hCi] at h5
  rw [hCi] at h6
  rw [hCi] at h7
  rw [hCi] at h8
  rw [hCe] at h9
  rw [hCo] at h10
  rw [hCa] at h11
  simp only [List.drop_zero, List.take_succ_cons, List.take_zero, List.drop_succ_cons] at h0 h1 h2 h3 h4 h5 h6 h7 h8 h9 h10 h11
  rw [List.getElem?_eq_getElem (show 0 < xs.length by omega)] at h0
  rw [List.getElem?_eq_getElem (show 1 < xs.length by omega)] at h1
  rw [List.getElem?_eq_getElem (show 2 < xs.length by omega)] at h2
  rw [List.getElem?_eq_getElem (show 3 < xs.length by omega)] at h3
  rw [List.getElem?_eq_getElem (show 4 < xs.length by omega)] at h4
  rw [List.getElem?_eq_getElem (show 5 < xs.length by omega)] at h5
  rw [List.getElem?_eq_getElem (show 6 < xs.length by omega)] at h6
  rw [List.getElem?_eq_getElem (show 7 < xs.length by omega)] at h7
  rw [List.getElem?_eq_getElem (show 8 < xs.length by omega)] at h8
  rw [List.getElem?_eq_getElem (show 9 < xs.length by omega)] at h9
  rw [List.getElem?_eq_getElem (show 10 < xs.length by omega)] at h10
  rw [List.getElem?_eq_getElem (show 11 < xs.length by omega)] at h11
  obtain ⟨z0, q0, _, _⟩ := DataW.trod_int Try.underlying3 h0
  obtain ⟨z1, q1, _, _⟩ := DataW.trod_int Try.underlying3 h1
  obtain ⟨z2, q2, _, _⟩ := DataW.trod_int Try.underlying3 h2
  obtain ⟨z3, q3, _, _⟩ := DataW.trod_int Try.underlying3 h3
  obtain ⟨z4, q4, _, _⟩ := DataW.trod_int Try.underlying3 h4
  obtain ⟨z5, q5, _, _⟩ := DataW.trod_int Try.underlying3 h5
  obtain ⟨z6, q6, _, _⟩ := DataW.trod_int Try.underlying3 h6
  obtain ⟨z7, q7, _, _⟩ := DataW.trod_int Try.underlying3 h7
  obtain ⟨z8, q8, _, _⟩ := DataW.trod_int Try.underlying3 h8
  cases q0; cases q1; cases q2; cases q3; cases q4; cases q5; cases q6; cases q7; cases q8
  obtain ⟨sl, es, rfl, hE, _⟩ := open_log h9
  obtain ⟨a, b, c, d, e, h5, _⟩ := five_of (ti := 3) Try.underlying42 (by kernel_rfl) (by kernel_rfl) rfl (by
    intro j f hf
    have hj : j < 5 := (Array.getElem?_eq_some_iff.1 hf).1
    obtain rfl | rfl | rfl | rfl | rfl : j = 0 ∨ j = 1 ∨ j = 2 ∨ j = 3 ∨ j = 4 := by omega
    all_goals
      cases hf
      exact Try.underlying3) h10
  cases h5
  obtain ⟨zs, hz, h6, _⟩ := ints_of (k := 3) Try.underlying63 (by kernel_rfl) (by kernel_rfl) rfl (by
    intro j f hf
    have hj : j < 3 := (Array.getElem?_eq_some_iff.1 hf).1
    obtain rfl | rfl | rfl : j = 0 ∨ j = 1 ∨ j = 2 := by omega
    all_goals
      cases hf
      exact Try.underlying3) h11
  obtain ⟨u0, u1, u2, rfl⟩ := len3 hz
  simp only [List.map_cons, List.map_nil] at h6
  cases h6
  exact ⟨⟨⟨z0, z1, z2, z3, z4, z5, z6, z7, z8, es⟩, sl, (a, b, c, d, e), (u0, u1, u2)⟩, rfl, hE⟩

/-- A slice of mail that comes in. -/
theorem open_mails {r : Reach} {b0 : Nat} {v : Value} {d : DataW H} {p : List MemPlace} (hv : Value.okWide Try.prog w r b0 54 v) (h : DataW.Trod enc Try.prog w base spare held 54 v d p) :
    ∃ (A : Option Addr) (l : List MailV) (c : Nat), v = .slice A l.length c ∧ l.length ≤ c ∧ c ≤ 9223372036854775807 ∧ Mails w w.heap.size A l := by
  obtain ⟨A, l, c, rfl, h1, h2, h3, h4, _⟩ := open_sl mailE (q := fun x => LogAt w w.heap.size x.es x.m.ents) (by kernel_rfl) (fun n cs y h => open_mail h) hv h
  exact ⟨A, l, c, rfl, h1, h2, h3, h4⟩
/-- One piece of mail that comes in. -/
theorem open_mail_one {r : Reach} {b0 : Nat} {v : Value} {d : DataW H} {p : List MemPlace} (hv : Value.okWide Try.prog w r b0 65 v) (h : DataW.Trod enc Try.prog w base spare held 65 v d p) :
    ∃ x : MailV, v = .agg (mailv x).toArray ∧ LogAt w w.heap.size x.es x.m.ents := by
  obtain ⟨⟨l⟩, rfl, hsz⟩ := okWide_struct Try.underlying65 hv
  obtain ⟨fuel, hf⟩ := h
  obtain ⟨x, he, hw⟩ := open_mail (cs := l) hf
  subst he
  exact ⟨x, rfl, hw⟩
theorem len9 {α : Type} {l : List α} (h : l.length = 9) : ∃ a0 a1 a2 a3 a4 a5 a6 a7 a8, l = [a0, a1, a2, a3, a4, a5, a6, a7, a8] := by
  match l, h with
  | [a0, a1, a2, a3, a4, a5, a6, a7, a8], _ => exact ⟨a0, a1, a2, a3, a4, a5, a6, a7, a8, rfl⟩
theorem open_begin {r : Reach} {b0 : Nat} {v : Value} {d : DataW H} {p : List MemPlace} (hv : Value.okWide Try.prog w r b0 53 v) (h : DataW.Trod enc Try.prog w base spare held 53 v d p) :
    ∃ (b : BegS) (own : RegS) (s : SlcE), v = .agg (begcells' b own s).toArray ∧ LogAt w w.heap.size s own.log := by
  have hC : Try.prog.cellsOf 53 = 9 := by kernel_rfl
  have hCi : Try.prog.cellsOf 3 = 1 := by kernel_rfl
  have hCr : Try.prog.cellsOf 24 = 4 := by kernel_rfl
  obtain ⟨⟨l⟩, rfl, hsz⟩ := okWide_struct Try.underlying53 hv
  obtain ⟨fuel, hf⟩ := h
  obtain ⟨xs, m, _, _, hl, hlen, hg⟩ := DataW.trod_struct (cs := l) Try.underlying53 hf
  rw [hC] at hl
  obtain ⟨c0, c1, c2, c3, c4, c5, c6, c7, c8, rfl⟩ := len9 hl
  have hx : xs.length = 6 := hlen
  have h0 := hg 0 _ rfl
  have h1 := hg 1 _ rfl
  have h2 := hg 2 _ rfl
  have h3 := hg 3 _ rfl
  have h4 := hg 4 _ rfl
  have h5 := hg 5 _ rfl
  simp only [List.getElem_toArray, List.getElem_cons_zero, List.getElem_cons_succ] at h0 h1 h2 h3 h4 h5
  rw [hCi] at h0
  rw [hCi] at h1
  rw [hCi] at h2
  rw [hCi] at h3
  rw [hCi] at h4
  rw [hCr] at h5
  simp only [List.drop_zero, List.take_succ_cons, List.take_zero, List.drop_succ_cons] at h0 h1 h2 h3 h4 h5
  rw [List.getElem?_eq_getElem (show 0 < xs.length by omega)] at h0
  rw [List.getElem?_eq_getElem (show 1 < xs.length by omega)] at h1
  rw [List.getElem?_eq_getElem (show 2 < xs.length by omega)] at h2
  rw [List.getElem?_eq_getElem (show 3 < xs.length by omega)] at h3
  rw [List.getElem?_eq_getElem (show 4 < xs.length by omega)] at h4
  rw [List.getElem?_eq_getElem (show 5 < xs.length by omega)] at h5
  obtain ⟨z0, q0, _, _⟩ := DataW.trod_int Try.underlying3 h0
  obtain ⟨z1, q1, _, _⟩ := DataW.trod_int Try.underlying3 h1
  obtain ⟨z2, q2, _, _⟩ := DataW.trod_int Try.underlying3 h2
  obtain ⟨z3, q3, _, _⟩ := DataW.trod_int Try.underlying3 h3
  obtain ⟨z4, q4, _, _⟩ := DataW.trod_int Try.underlying3 h4
  cases q0; cases q1; cases q2; cases q3; cases q4
  obtain ⟨hlr, mr, hfr⟩ := cells_fields Try.underlying24 (by kernel_rfl) (by kernel_rfl) h5
  obtain ⟨own, sl, hcs, hE, _⟩ := reg_fields Try.underlying24 hlr hfr
  unfold rgv at hcs
  cases hcs
  exact ⟨⟨z0, z1, z2, z3, z4⟩, own, sl, rfl, hE⟩
end
end Go.Proofs.Ytbicefilfhcgoaa
