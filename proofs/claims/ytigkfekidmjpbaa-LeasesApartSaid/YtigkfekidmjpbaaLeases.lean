/-
  The walks over the functions of a book of leases.
-/
import Derived.Test.YtigkfekidmjpbaaProg
import Derived.Test.YtigkfekidmjpbaaSeq
import Derived.WalkKit
import Derived.WalkSpells
import Derived.WalkLawsBesides
import Derived.RowKit3
import Derived.Lib.Hide
import Derived.Test.YtigkfekidmjpbaaIMap
set_option linter.unusedSimpArgs false
set_option linter.unusedVariables false
namespace Go.Proofs.Ytigkfekidmjpbaa
open Go.RowKit Go.Sq Go.Im

/-- When a grant of a tick is over. -/
def afterS (now : Int) : Int := if now > 1073741824 then now else now + 16

theorem after_any (now : Int) (h0 : -9223372036854775808 ≤ now) (w : World) : Calls Try.prog 32 #[.int .i64 now] w fun e w' => e = .returned (.int .i64 (afterS now)) ∧ w' = w := by
  go_enter Try.func32, Try.ntmps32
  go_wp2
  all_goals (go_ret; refine ⟨ret_int ?_, rfl⟩)
  all_goals (simp [afterS] at *)
  all_goals (try omega)

/-- THE BOOK in block b: made, its grace, its map. -/
def Bk (w : World) (b m n : Nat) (gr : Int) (G : Int → Option (Int × Int)) : Prop :=
  w.cell? ⟨b, 0, none⟩ = some (.bool true) ∧ w.cell? ⟨b, 1, none⟩ = some (.int .i64 gr) ∧ w.cell? ⟨b, 2, none⟩ = some (.map (some m)) ∧
    IMap Try.prog 3 w m n (fun a => (G a).map fun g => .agg #[.int .i64 g.1, .int .i64 g.2])

theorem grown_drew {a b : World} {row : Option Nat} (h : a.grownBy b row) : a.grownBy b.drew row := ⟨h.os, h.tape, h.output, h.size, h.block⟩

theorem Bk.ne {w : World} {b m n : Nat} {gr : Int} {G : Int → Option (Int × Int)} (h : Bk w b m n gr G) : b ≠ m := by
  obtain ⟨h1, _, _, D, ⟨es, clock, hb, _⟩, _⟩ := h
  rintro rfl
  simp [World.cell?, hb] at h1

/-- A book stays what it is while other blocks turn. -/
theorem Bk.kept {w w' : World} {b m n : Nat} {gr : Int} {G : Int → Option (Int × Int)} (h : Bk w b m n gr G) {x : Option Nat} (hg : w.grownBy w' x) (h1 : some b ≠ x) (h2 : some m ≠ x) : Bk w' b m n gr G :=
  ⟨hg.cell h.1 h1, hg.cell h.2.1 h1, hg.cell h.2.2.1 h1, h.2.2.2.of_block (hg.block m h.2.2.2.lt h2)⟩

theorem Bk.mono {w : World} {b m n n' : Nat} {gr : Int} {G : Int → Option (Int × Int)} (h : Bk w b m n gr G) (hn : n ≤ n') : Bk w b m n' gr G :=
  ⟨h.1, h.2.1, h.2.2.1, h.2.2.2.mono hn⟩

/-- Behind a store. -/
theorem Bk.stored {w w' : World} {b m n n' : Nat} {gr : Int} {G G' : Int → Option (Int × Int)} (h : Bk w b m n gr G) (hg : w.grownBy w' (some m))
    (hm : IMap Try.prog 3 w' m n' (fun a => (G' a).map fun g => .agg #[.int .i64 g.1, .int .i64 g.2])) : Bk w' b m n' gr G' :=
  have hne : some b ≠ some m := fun e => h.ne (Option.some.inj e)
  ⟨hg.cell h.1 hne, hg.cell h.2.1 hne, hg.cell h.2.2.1 hne, hm⟩

theorem none_nil (w : World) : Calls Try.prog 33 #[.pointer none] w fun e w' => e = .returned (.bool true) ∧ w' = w := by
  go_enter Try.func33, Try.ntmps33
  go_wp2
  go_ret
  exact ⟨rfl, rfl⟩

theorem none_book (b : Nat) (m : Bool) (w : World) (h : w.cell? ⟨b, 0, none⟩ = some (.bool m)) : Calls Try.prog 33 #[.pointer (some ⟨b, 0, none⟩)] w fun e w' => e = .returned (.bool (!m)) ∧ w' = w := by
  go_enter Try.func33, Try.ntmps33
  go_wp2
  go_ret
  exact ⟨rfl, rfl⟩

theorem zero_grant (w : World) : (zeroValue 70).run Try.prog w = .ok (.agg #[.int .i64 0, .int .i64 0]) w := by kernel_rfl

/-- May. -/
def mayL (gr : Int) (G : Option (Int × Int)) (ep now : Int) : Bool :=
  if now < gr then false else match G with
    | none => true
    | some g => decide (g.2 ≤ now) || decide (ep = g.1)

theorem lmay_any (b m n : Nat) (gr : Int) (G : Int → Option (Int × Int)) (s ep now : Int) (hs : (Lit.int .i64 s).wf = true) (w : World) (h : Bk w b m n gr G) :
    Calls Try.prog 17 #[.pointer (some ⟨b, 0, none⟩), .int .i64 s, .int .i64 ep, .int .i64 now] w fun e w' => e = .returned (.bool (mayL gr (G s) ep now)) ∧ Below w.heap.size w w' := by
  obtain ⟨h1, h2, h3, hm⟩ := h
  have hl := hm.look_ok Try.underlying3 Try.underlying45 (zero_grant w) hs
  go_enter Try.func17, Try.ntmps17
  go_wp2_with fail
  refine (none_book b true _ h1).mono ?_
  rintro e w1 ⟨rfl, rfl⟩
  by_cases hg : now < gr
  · go_wp2_with fail
    go_ret
    refine ⟨ret_bool ?_, by (repeat (first | with_reducible apply Below.drew | with_reducible refine Below.setCell ?_ (by first | exact Nat.le_refl _ | (simp; done) | (simp; omega) | omega) _ | with_reducible refine Below.alloc ?_ (by first | exact Nat.le_refl _ | (simp; done) | (simp; omega) | omega) _ | with_reducible exact Below.refl _ _ | with_reducible assumption))⟩
    simp [mayL, hg]
  cases hG : G s with
  | none =>
    simp only [hG, Option.map_none, Option.getD_none, Option.isSome_none] at hl
    go_wp2_with fail
    go_ret
    refine ⟨ret_bool ?_, by (repeat (first | with_reducible apply Below.drew | with_reducible refine Below.setCell ?_ (by first | exact Nat.le_refl _ | (simp; done) | (simp; omega) | omega) _ | with_reducible refine Below.alloc ?_ (by first | exact Nat.le_refl _ | (simp; done) | (simp; omega) | omega) _ | with_reducible exact Below.refl _ _ | with_reducible assumption))⟩
    simp [mayL, hg, hG]
  | some g =>
    simp only [hG, Option.map_some, Option.getD_some, Option.isSome_some] at hl
    go_wp2_with fail
    all_goals (go_ret; refine ⟨ret_bool ?_, by (repeat (first | with_reducible apply Below.drew | with_reducible refine Below.setCell ?_ (by first | exact Nat.le_refl _ | (simp; done) | (simp; omega) | omega) _ | with_reducible refine Below.alloc ?_ (by first | exact Nat.le_refl _ | (simp; done) | (simp; omega) | omega) _ | with_reducible exact Below.refl _ _ | with_reducible assumption))⟩)
    all_goals (have hgg : ¬ now < gr := by omega)
    all_goals (simp only [mayL, hgg, hG, if_false])
    all_goals (rw [Bool.eq_iff_iff]; simp [*])

/-- Holder. -/
def holdL (G : Option (Int × Int)) (now : Int) : Int × Bool :=
  match G with
    | none => (0, false)
    | some g => if g.2 ≤ now then (0, false) else (g.1, true)

theorem lholder_any (b m n : Nat) (gr : Int) (G : Int → Option (Int × Int)) (s now : Int) (hs : (Lit.int .i64 s).wf = true) (w : World) (h : Bk w b m n gr G) :
    Calls Try.prog 16 #[.pointer (some ⟨b, 0, none⟩), .int .i64 s, .int .i64 now] w fun e w' => e = .returned (.tuple #[.int .i64 (holdL (G s) now).1, .bool (holdL (G s) now).2]) ∧ Below w.heap.size w w' := by
  obtain ⟨h1, h2, h3, hm⟩ := h
  have hl := hm.look_ok Try.underlying3 Try.underlying45 (zero_grant w) hs
  go_enter Try.func16, Try.ntmps16
  go_wp2_with fail
  refine (none_book b true _ h1).mono ?_
  rintro e w1 ⟨rfl, rfl⟩
  cases hG : G s with
  | none =>
    simp only [hG, Option.map_none, Option.getD_none, Option.isSome_none] at hl
    go_wp2_with fail
    apply ret_of
    · simp only [results, Try.results16]
      go_simp
      with_reducible rfl
    refine ⟨rfl, ?_⟩
    refine ⟨by simp [holdL, hG], by (repeat (first | with_reducible apply Below.drew | with_reducible refine Below.setCell ?_ (by first | exact Nat.le_refl _ | (simp; done) | (simp; omega) | omega) _ | with_reducible refine Below.alloc ?_ (by first | exact Nat.le_refl _ | (simp; done) | (simp; omega) | omega) _ | with_reducible exact Below.refl _ _ | with_reducible assumption))⟩
  | some g =>
    simp only [hG, Option.map_some, Option.getD_some, Option.isSome_some] at hl
    by_cases hc : g.2 ≤ now
    · go_wp2_with fail
      apply ret_of
      · simp only [results, Try.results16]
        go_simp
        with_reducible rfl
      refine ⟨rfl, ?_⟩
      refine ⟨by simp [holdL, hG, hc], by (repeat (first | with_reducible apply Below.drew | with_reducible refine Below.setCell ?_ (by first | exact Nat.le_refl _ | (simp; done) | (simp; omega) | omega) _ | with_reducible refine Below.alloc ?_ (by first | exact Nat.le_refl _ | (simp; done) | (simp; omega) | omega) _ | with_reducible exact Below.refl _ _ | with_reducible assumption))⟩
    · go_wp2_with fail
      apply ret_of
      · simp only [results, Try.results16]
        go_simp
        with_reducible rfl
      refine ⟨rfl, ?_⟩
      have hcc : ¬ g.2 ≤ now := by omega
      refine ⟨by simp [holdL, hG, hcc], by (repeat (first | with_reducible apply Below.drew | with_reducible refine Below.setCell ?_ (by first | exact Nat.le_refl _ | (simp; done) | (simp; omega) | omega) _ | with_reducible refine Below.alloc ?_ (by first | exact Nat.le_refl _ | (simp; done) | (simp; omega) | omega) _ | with_reducible exact Below.refl _ _ | with_reducible assumption))⟩

/-- What a call on a book leaves as it was: all memory but the map's entries. -/
def But (m : Nat) (w w' : World) : Prop := w.grownBy w' (some m)

/-- Grant. -/
def grantE (s ep : Int) : Int := if s < 0 ∨ 4 ≤ s ∨ ep < 1 then 2 else 0

def grantG (G : Option (Int × Int)) (ep now : Int) : Option (Int × Int) :=
  if (G.getD (0, 0)).1 < ep then some (ep, afterS now) else if ep = (G.getD (0, 0)).1 then some (ep, max (G.getD (0, 0)).2 (afterS now)) else G

def grantL (G : Int → Option (Int × Int)) (s ep now : Int) : Int → Option (Int × Int) :=
  fun x => if x = s ∧ grantE s ep = 0 then grantG (G s) ep now else G x

theorem grantL_bad {G : Int → Option (Int × Int)} {s ep now : Int} (h : s < 0 ∨ 4 ≤ s ∨ ep < 1) : grantL G s ep now = G := by
  funext x
  simp [grantL, grantE, h]

theorem grantL_none {G : Int → Option (Int × Int)} {s ep now : Int} (h : ep < ((G s).getD (0, 0)).1) : grantL G s ep now = G := by
  funext x
  by_cases hx : x = s
  · subst hx
    have h1 : ¬ ((G x).getD (0, 0)).1 < ep := by omega
    have h2 : ¬ ep = ((G x).getD (0, 0)).1 := by omega
    simp [grantL, grantG, h1, h2]
  · simp [grantL, hx]

theorem getD_map (o : Option (Int × Int)) : (o.map fun g => Value.agg #[.int .i64 g.1, .int .i64 g.2]).getD (.agg #[.int .i64 0, .int .i64 0]) = .agg #[.int .i64 (o.getD (0, 0)).1, .int .i64 (o.getD (0, 0)).2] := by
  cases o <;> rfl

theorem upd_map {G G' : Int → Option (Int × Int)} {s a c : Int} (h : ∀ x, G' x = if x = s then some (a, c) else G x) :
    upd (fun a => (G a).map fun g => Value.agg #[.int .i64 g.1, .int .i64 g.2]) s (.agg #[.int .i64 a, .int .i64 c]) = fun a => (G' a).map fun g => Value.agg #[.int .i64 g.1, .int .i64 g.2] := by
  funext x
  simp only [upd, h]
  split <;> rfl

set_option maxHeartbeats 2000000 in
theorem lgrant_any (b m n : Nat) (hn : n < maxLen) (gr : Int) (G : Int → Option (Int × Int)) (s ep now : Int) (hs : (Lit.int .i64 s).wf = true) (h0 : -9223372036854775808 ≤ now) (w : World) (h : Bk w b m n gr G) :
    Calls Try.prog 15 #[.pointer (some ⟨b, 0, none⟩), .int .i64 s, .int .i64 ep, .int .i64 now] w fun e w' => e = .returned (.int .i64 (grantE s ep)) ∧ Bk w' b m (n + 1) gr (grantL G s ep now) ∧ But m w w' := by
  have hbk := h
  obtain ⟨h1, h2, h3, hm⟩ := h
  have hl := hm.look Try.underlying3 Try.underlying45 (zero_grant w) hs
  simp only [getD_map] at hl
  go_enter Try.func15, Try.ntmps15
  go_wp2_with fail
  refine (none_book b true _ h1).mono ?_
  rintro e w1 ⟨rfl, rfl⟩
  by_cases hb : s < 0 ∨ 4 ≤ s ∨ ep < 1
  · have hb1 : (decide (s < 0) || decide (4 ≤ s) || decide (ep < 1)) = true := by simpa [or_assoc] using hb
    go_wp2_with fail
    all_goals (go_ret; refine ⟨ret_int (by simp [grantE, hb]), ?_, ?_⟩)
    all_goals (first | (rw [grantL_bad hb]; exact ⟨h1, h2, h3, hm.mono (by omega)⟩) | exact World.grownBy.refl _ _)
  · have hb1 : (decide (s < 0) || decide (4 ≤ s) || decide (ep < 1)) = false := by
      simp only [Bool.or_eq_false_iff, decide_eq_false_iff_not]; omega
    have hE : grantE s ep = 0 := by simp [grantE, hb]
    have hlt := hm.lt
    have hbm := hbk.ne
    by_cases hc1 : ((G s).getD (0, 0)).1 < ep
    · go_wp2_with fail
      have hW : w1.grownBy (w1.alloc (.cells #[.int .i64 ((G s).getD (0, 0)).1, .int .i64 ((G s).getD (0, 0)).2] 70)).drew (some m) := grown_drew (World.grownBy_alloc _ _ _)
      have hkW := hbk.kept (World.grownBy_alloc w1 (.cells #[.int .i64 ((G s).getD (0, 0)).1, .int .i64 ((G s).getD (0, 0)).2] 70) none) (by simp) (by simp)
      obtain ⟨w2, hst, hm2, htu⟩ := (hkW.2.2.2.drew).store Try.underlying3 Try.underlying45 hn hs (.agg #[.int .i64 ep, .int .i64 (afterS now)])
      have hg2 := hW.trans htu.grown
      refine wp_region_q 9 1 (fun w' => w'.cell? ⟨b, 2, none⟩ = some (.map (some m))) (by kernel_rfl) (by kernel_rfl) (by kernel_rfl) (by kernel_rfl) (by kernel_rfl) (hkW.2.2.1) rfl ?_
      intro K T hK hT
      simp only [List.map, List.take, List.drop] at hK ⊢
      go_wp2_with (first
        | (apply SeqQ.skip; rfl; simp only [Act.put, List.setIfInBounds_toArray, List.set_cons_zero, List.set_cons_succ])
        | (apply SeqQ.call; rfl; rfl; (intro w hw; have h4 := hT _ hw; go_simp; exact ⟨rfl, rfl⟩); (intro w hw; have h4 := hT _ hw; (first | (go_at_call 32; refine (after_any _ (by assumption) _).mono ?_; rintro e w' ⟨rfl, rfl⟩; exact ⟨rfl, rfl⟩))); simp only [Act.put, List.setIfInBounds_toArray, List.set_cons_zero, List.set_cons_succ])
        | (apply SeqQ.pure; rfl; (intro w hw; have h4 := hT _ hw; go_simp; with_reducible rfl); simp only [Act.put, List.setIfInBounds_toArray, List.set_cons_zero, List.set_cons_succ])
        | (apply SeqQ.split; rfl; rfl; all_goals (intro hc; simp only [hc]; try simp only [beq_iff_eq, decide_eq_true_eq, beq_eq_false_iff_ne, decide_eq_false_iff_not, bne_iff_ne, ne_eq, Bool.not_eq_true', Bool.not_eq_false', Int.not_le, Int.not_lt, bne_eq_false_iff_eq] at hc)))
      refine SeqQ.nil (hK _ ?_)
      clear hK hT
      refine wpListH.cons rfl (fun K' hK' => ?_)
      go_simp
      refine hK' _ _ (hg2.cell h3 (by simp; exact hbm)) (fun hS => ?_)
      refine wpListH.nil ?_
      go_wp2_with fail
      go_ret
      refine ⟨by rw [hE]; rfl, hbk.stored hg2 ?_, hg2⟩
      rw [← upd_map (G := G) (s := s) (a := ep) (c := (afterS now))]
      · exact hm2
      · intro x
        by_cases hx : x = s
        · subst hx
          simp [grantL, hE, grantG, hc1]
        · simp [grantL, hx]
    by_cases hc2 : ep = ((G s).getD (0, 0)).1
    · subst hc2
      by_cases hmx : ((G s).getD (0, 0)).2 < afterS now
      · go_wp2_with fail
        have hW : w1.grownBy (w1.alloc (.cells #[.int .i64 ((G s).getD (0, 0)).1, .int .i64 ((G s).getD (0, 0)).2] 70)).drew (some m) := grown_drew (World.grownBy_alloc _ _ _)
        have hkW := hbk.kept (World.grownBy_alloc w1 (.cells #[.int .i64 ((G s).getD (0, 0)).1, .int .i64 ((G s).getD (0, 0)).2] 70) none) (by simp) (by simp)
        obtain ⟨w2, hst, hm2, htu⟩ := (hkW.2.2.2.drew).store Try.underlying3 Try.underlying45 hn hs (.agg #[.int .i64 ((G s).getD (0, 0)).1, .int .i64 (afterS now)])
        have hg2 := hW.trans htu.grown
        refine wp_region_q 12 1 (fun w' => w'.cell? ⟨b, 2, none⟩ = some (.map (some m)) ∧ w'.cell? ⟨w1.heap.size, 1, none⟩ = some (.int .i64 ((G s).getD (0, 0)).2)) (by kernel_rfl) (by kernel_rfl) (by kernel_rfl) (by kernel_rfl) (by kernel_rfl) (⟨hkW.2.2.1, by simp [go_sem]⟩) rfl ?_
        intro K T hK hT
        simp only [List.map, List.take, List.drop] at hK ⊢
        go_wp2_with (first
          | (apply SeqQ.skip; rfl; simp only [Act.put, List.setIfInBounds_toArray, List.set_cons_zero, List.set_cons_succ])
          | (apply SeqQ.call; rfl; rfl; (intro w hw; have h4 := hT _ hw; go_simp; exact ⟨rfl, rfl⟩); (intro w hw; have h4 := hT _ hw; (first | (go_at_call 32; refine (after_any _ (by assumption) _).mono ?_; rintro e w' ⟨rfl, rfl⟩; exact ⟨rfl, rfl⟩))); simp only [Act.put, List.setIfInBounds_toArray, List.set_cons_zero, List.set_cons_succ])
          | (apply SeqQ.pure; rfl; (intro w hw; have h4 := hT _ hw; go_simp; with_reducible rfl); simp only [Act.put, List.setIfInBounds_toArray, List.set_cons_zero, List.set_cons_succ])
          | (apply SeqQ.split; rfl; rfl; all_goals (intro hc; simp only [hc]; try simp only [beq_iff_eq, decide_eq_true_eq, beq_eq_false_iff_ne, decide_eq_false_iff_not, bne_iff_ne, ne_eq, Bool.not_eq_true', Bool.not_eq_false', Int.not_le, Int.not_lt, bne_eq_false_iff_eq] at hc)))
        refine SeqQ.nil (hK _ ?_)
        clear hK hT
        refine wpListH.cons rfl (fun K' hK' => ?_)
        go_simp
        refine hK' _ _ ⟨hg2.cell h3 (by simp; exact hbm), htu.grown.cell (by simp [go_sem]) (by simp; omega)⟩ (fun hS => ?_)
        refine wpListH.nil ?_
        go_wp2_with fail
        go_ret
        refine ⟨by rw [hE]; rfl, hbk.stored hg2 ?_, hg2⟩
        rw [← upd_map (G := G) (s := s) (a := ((G s).getD (0, 0)).1) (c := (afterS now))]
        · exact hm2
        · intro x
          by_cases hx : x = s
          · subst hx
            simp [grantL, hE, grantG]; omega
          · simp [grantL, hx]
      · go_wp2_with fail
        have hW : w1.grownBy (w1.alloc (.cells #[.int .i64 ((G s).getD (0, 0)).1, .int .i64 ((G s).getD (0, 0)).2] 70)).drew (some m) := grown_drew (World.grownBy_alloc _ _ _)
        have hkW := hbk.kept (World.grownBy_alloc w1 (.cells #[.int .i64 ((G s).getD (0, 0)).1, .int .i64 ((G s).getD (0, 0)).2] 70) none) (by simp) (by simp)
        obtain ⟨w2, hst, hm2, htu⟩ := (hkW.2.2.2.drew).store Try.underlying3 Try.underlying45 hn hs (.agg #[.int .i64 ((G s).getD (0, 0)).1, .int .i64 ((G s).getD (0, 0)).2])
        have hg2 := hW.trans htu.grown
        refine wp_region_q 12 1 (fun w' => w'.cell? ⟨b, 2, none⟩ = some (.map (some m)) ∧ w'.cell? ⟨w1.heap.size, 1, none⟩ = some (.int .i64 ((G s).getD (0, 0)).2)) (by kernel_rfl) (by kernel_rfl) (by kernel_rfl) (by kernel_rfl) (by kernel_rfl) (⟨hkW.2.2.1, by simp [go_sem]⟩) rfl ?_
        intro K T hK hT
        simp only [List.map, List.take, List.drop] at hK ⊢
        go_wp2_with (first
          | (apply SeqQ.skip; rfl; simp only [Act.put, List.setIfInBounds_toArray, List.set_cons_zero, List.set_cons_succ])
          | (apply SeqQ.call; rfl; rfl; (intro w hw; have h4 := hT _ hw; go_simp; exact ⟨rfl, rfl⟩); (intro w hw; have h4 := hT _ hw; (first | (go_at_call 32; refine (after_any _ (by assumption) _).mono ?_; rintro e w' ⟨rfl, rfl⟩; exact ⟨rfl, rfl⟩))); simp only [Act.put, List.setIfInBounds_toArray, List.set_cons_zero, List.set_cons_succ])
          | (apply SeqQ.pure; rfl; (intro w hw; have h4 := hT _ hw; go_simp; with_reducible rfl); simp only [Act.put, List.setIfInBounds_toArray, List.set_cons_zero, List.set_cons_succ])
          | (apply SeqQ.split; rfl; rfl; all_goals (intro hc; simp only [hc]; try simp only [beq_iff_eq, decide_eq_true_eq, beq_eq_false_iff_ne, decide_eq_false_iff_not, bne_iff_ne, ne_eq, Bool.not_eq_true', Bool.not_eq_false', Int.not_le, Int.not_lt, bne_eq_false_iff_eq] at hc)))
        refine SeqQ.nil (hK _ ?_)
        clear hK hT
        refine wpListH.cons rfl (fun K' hK' => ?_)
        go_simp
        refine hK' _ _ ⟨hg2.cell h3 (by simp; exact hbm), htu.grown.cell (by simp [go_sem]) (by simp; omega)⟩ (fun hS => ?_)
        refine wpListH.nil ?_
        go_wp2_with fail
        go_ret
        refine ⟨by rw [hE]; rfl, hbk.stored hg2 ?_, hg2⟩
        rw [← upd_map (G := G) (s := s) (a := ((G s).getD (0, 0)).1) (c := ((G s).getD (0, 0)).2)]
        · exact hm2
        · intro x
          by_cases hx : x = s
          · subst hx
            simp [grantL, hE, grantG]; omega
          · simp [grantL, hx]
    · have hlow : ep < ((G s).getD (0, 0)).1 := by omega
      go_wp2_with fail
      go_ret
      refine ⟨by rw [hE]; rfl, ?_, World.grownBy_alloc _ _ _⟩
      rw [grantL_none hlow]
      exact (hbk.kept (World.grownBy_alloc w1 _ none) (by simp) (by simp)).mono (by omega)
end Go.Proofs.Ytigkfekidmjpbaa
