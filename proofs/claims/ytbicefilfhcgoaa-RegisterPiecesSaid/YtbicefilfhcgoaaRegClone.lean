/-
  The walks over 'slices.Clone' of entries, and 'register.Clone'.
-/
import Derived.Test.YtbicefilfhcgoaaRegChk
set_option linter.unusedSimpArgs false
set_option linter.unusedVariables false
set_option maxRecDepth 100000
namespace Go.Proofs.Ytbicefilfhcgoaa
open Go Go.RowKit Go.Sq Go.Wd Go.Arch

theorem LogAt.none_nil {w : World} {B : Nat} {l : List Ent} {n c : Nat} (h : LogAt w B (none, n, c) l) : l = [] := by
  rcases Nat.eq_zero_or_pos l.length with h0 | h0
  · exact List.eq_nil_of_length_eq_zero h0
  · obtain ⟨b, o, ha, _⟩ := h.2.2.2 h0
    cases ha
theorem Row.log {w : World} {B : Nat} {v : Value} {l : List Ent} (h : Row w B v l) : ∃ sl : SlcE, v = .slice sl.1 sl.2.1 sl.2.2 ∧ LogAt w w.heap.size sl l := by
  obtain ⟨A, c, rfl, h1, h2, h3⟩ := h.form
  exact ⟨(A, l.length, c), rfl, rfl, h1, h2, h3⟩
theorem Row.far {w w' : World} {B k : Nat} {v : Value} {l : List Ent} (h : Row w B v l) (hg : w.grownBy w' (some k)) (hk : k < B) : Row w' B v l := h.kept hg (by
  cases hv : v.ownBlock with
  | none => exact .inl rfl
  | some g => exact .inr (fun e => by have := (h.lt g hv).1; cases e; omega))
theorem Row.base {w : World} {B B' : Nat} {v : Value} {l : List Ent} (h : Row w B v l) (hB : B' ≤ B) : Row w B' v l := by
  refine ⟨h.1, ?_⟩
  rcases h.2 with h' | ⟨g, cap, cur, h1, h2, r⟩
  · exact .inl h'
  · exact .inr ⟨g, cap, cur, h1, Nat.le_trans hB h2, r⟩
theorem eql_nil (A : Option Addr) (n c : Nat) (w : World) : (binOp .eql 22 (.slice A n c) (.slice none 0 0)).run Try.prog w = .ok (.bool A.isNone) w := by
  have h : (Op.equalIn (9999 + 1) 22 (.slice A n c) (.slice none 0 0)).run Try.prog w = .ok A.isNone w := by
    rw [Op.equalIn]
    cases A <;> simp [run_underlying Try.underlying22]
  have h2 : Op.equal 22 (.slice A n c) (.slice none 0 0) = Op.equalIn (9999 + 1) 22 (.slice A n c) (.slice none 0 0) := rfl
  simp [binOp, h2, h]
theorem Row.nil (w : World) (B : Nat) : Row w B (.slice none 0 0) [] := World.ownsRow_nil _ _ _ _

set_option maxHeartbeats 2000000 in
theorem clone_any (l : List Ent) (A : Option Addr) (c : Nat) (w : World) (hl : LogAt w w.heap.size (A, l.length, c) l) (h2 : l.length ≤ 2000) :
    Calls Try.prog 47 #[.slice A l.length c] w fun e w' => ∃ v, e = .returned v ∧ Row w' w.heap.size v l ∧ Below w.heap.size w w' := by
  have hw := Below.refl w.heap.size w
  cases A with
  | none =>
    have hn := hl.none_nil
    subst hn
    have hq := eql_nil none 0 c w
    go_enter Try.func47, Try.ntmps47
    go_wp2_with fail
    go_ret
    exact ⟨_, rfl, Row.nil _ _, hw⟩
  | some a =>
    obtain ⟨v', w', hrun, hR, hb⟩ := copy_run l (some a) c w hl.2.2.2 h2
    have HH := Lib.hid (And.intro hR hb)
    have hq := eql_nil (some a) l.length c w
    clear hR hb hl
    go_enter Try.func47, Try.ntmps47
    go_wp2_with (at_builtin; refine wpList_app rfl (by rfl) (by rfl) (by rfl) hrun ?_)
    go_ret
    exact ⟨_, rfl, HH.out⟩

theorem rg_info : (Try.prog.info? 24).map (·.size) = some 4 := by kernel_rfl
theorem rc_info : (Try.prog.info? 27).map (·.size) = some 8 := by kernel_rfl

set_option maxHeartbeats 2000000 in
theorem regclone_any (r : RegS) (sl : SlcE) (w : World) (hl : LogAt w w.heap.size sl r.log) (h2 : r.log.length ≤ 2000) :
    Calls Try.prog 27 #[.agg (rgv r sl).toArray] w fun e w' => ∃ sl' : SlcE, e = .returned (.agg (rgv r sl').toArray) ∧ Row w' w.heap.size (.slice sl'.1 sl'.2.1 sl'.2.2) r.log ∧ Below w.heap.size w w' := by
  obtain ⟨p, v, lg, k⟩ := r
  obtain ⟨A, n, c⟩ := sl
  obtain rfl : n = lg.length := hl.1
  unfold rgv
  dsimp only at h2
  have hb0 : Below w.heap.size w ((w.alloc (.cells #[.int .i64 p, .int .i64 v, .slice A lg.length c, .int .i64 k] 24)).alloc (.cells #[.int .i64 0, .int .i64 0, .slice none 0 0, .int .i64 0] 24)) := ((Below.refl _ _).alloc (Nat.le_refl _) _).alloc (by simp) _
  have B0 := (Blk.new w 24 [.int .i64 p, .int .i64 v, .slice A lg.length c, .int .i64 k]).alloc (.cells #[.int .i64 0, .int .i64 0, .slice none 0 0, .int .i64 0] 24)
  have B1 := Blk.new1 w (.cells #[.int .i64 p, .int .i64 v, .slice A lg.length c, .int .i64 k] 24) 24 [.int .i64 0, .int .i64 0, .slice none 0 0, .int .i64 0]
  have HH := Lib.hid (And.intro hb0 (And.intro B0 (And.intro B1 (hl.keep hb0))))
  clear hb0 B0 B1 hl
  go_enter Try.func27, Try.ntmps27
  go_wp2_with fail
  refine (clone_any lg A c _ HH.out.2.2.2 h2).mono ?_
  rintro e w1 ⟨vl, rfl, hR, hb⟩
  have hw1 := below_trans HH.out.1 hb HH.out.1.size
  have C0 := HH.out.2.1.keep hb
  have C1 := HH.out.2.2.1.keep hb
  have hR' := hR
  obtain ⟨sl', rfl, hL⟩ := hR.log
  clear hb HH
  have d2 := C0.cell 2
  have fr := C0.frozen
  have fr1 := C1.frozen
  have l0 := C0.lt
  have l1 := C1.lt
  have c0 := C0.cell 0
  have c1 := C0.cell 1
  have c3 := C0.cell 3
  have e0 := C1.cell 0
  have e1 := C1.cell 1
  have e2 := C1.cell 2
  have e3 := C1.cell 3
  simp at d2 c0 c1 c3 e0 e1 e2 e3
  go_wp2_with fail
  apply ret_of
  · simp only [results, Try.results27]
    go_simp
    with_reducible rfl
  refine ⟨rfl, sl', rfl, ?_, ?_⟩
  · have g1 : w1.grownBy (w1.setCell ⟨w.heap.size, 2, none⟩ (.slice sl'.1 sl'.2.1 sl'.2.2)) (some w.heap.size) := by (repeat (first | with_reducible apply only_drew | with_reducible refine only_setCell ?_ (by first | exact Or.inl rfl | (right; simp; done) | (right; simp; omega) | (right; omega)) _ | with_reducible refine only_alloc ?_ _ | with_reducible exact World.grownBy.refl _ _ | with_reducible assumption))
    have R1 := hR.far g1 (by simp; omega)
    generalize w1.setCell ⟨w.heap.size, 2, none⟩ (.slice sl'.1 sl'.2.1 sl'.2.2) = w2 at R1 ⊢
    have g2 : w2.grownBy ((((w2.setCell ⟨w.heap.size + 1, 0, none⟩ (.int .i64 p)).setCell ⟨w.heap.size + 1, 1, none⟩ (.int .i64 v)).setCell ⟨w.heap.size + 1, 2, none⟩ (.slice sl'.1 sl'.2.1 sl'.2.2)).setCell ⟨w.heap.size + 1, 3, none⟩ (.int .i64 k)) (some (w.heap.size + 1)) := by (repeat (first | with_reducible apply only_drew | with_reducible refine only_setCell ?_ (by first | exact Or.inl rfl | (right; simp; done) | (right; simp; omega) | (right; omega)) _ | with_reducible refine only_alloc ?_ _ | with_reducible exact World.grownBy.refl _ _ | with_reducible assumption))
    exact Row.base (Row.far R1 g2 (by simp)) (by simp; omega)
  · (repeat (first | with_reducible apply Below.drew | with_reducible refine Below.setCell ?_ (by first | exact Nat.le_refl _ | (simp; done) | (simp; omega) | omega) _ | with_reducible refine Below.alloc ?_ (by first | exact Nat.le_refl _ | (simp; done) | (simp; omega) | omega) _ | with_reducible exact Below.refl _ _ | with_reducible assumption))
end Go.Proofs.Ytbicefilfhcgoaa
