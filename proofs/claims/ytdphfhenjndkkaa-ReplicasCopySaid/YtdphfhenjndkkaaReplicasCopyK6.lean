/-
  The walk over chapter 19's 'lives'.
  The plain laws of what a site does: what is promised, and what stays.
  The walk over chapter 19's 'beyond'.
  Records applied, and where the log lies then: new, or where the first one lay.
  An argument that is a struct by value, opened to the values of its fields.
  Slices that come in, of elements of any number of cells: entries, registers.
  A slice of numbers as an argument.
  played: what a list of mail comes to, on the code's side.
  An owner's log that is sent whole, and in pieces: the same. Plain.
  The walk over the statement ReplicasCopy.
-/
import Derived.Test.YtdphfhenjndkkaaProg
import Derived.Deep.Slices
import Derived.Deep.Fields
import Derived.ChangeSame
import Derived.ProofKit
import Derived.OpenShut
import Derived.Test.YtdphfhenjndkkaaReplicasCopyK1
import Derived.Test.YtdphfhenjndkkaaReplicasCopyK2
import Derived.Test.YtdphfhenjndkkaaReplicasCopyK3
import Derived.Test.YtdphfhenjndkkaaReplicasCopyK4
import Derived.Test.YtdphfhenjndkkaaReplicasCopyK5
set_option linter.unusedSimpArgs false
set_option linter.unusedVariables false
set_option maxRecDepth 100000
namespace Go.Proofs.Ytdphfhenjndkkaa
open Go Go.RowKit Go.Sq Go.Wd Go.Arch Go.Im

def eL1 : Ent := (2, 5, 0, -1, 1, 1)
def eL2 : Ent := (2, 6, 0, -1, 2, 1)
def mL1 : MailS := ⟨1, 1, 0, 0, 2, 0, 0, 0, 7, []⟩
def mL2 : MailS := ⟨1, 2, 0, 0, 1, 0, 0, 0, 0, []⟩
def mL3 : MailS := ⟨4, 1, 0, 0, 2, 0, 0, 1, 9, [eL1, eL2]⟩
def mL4 : MailS := ⟨4, 1, 0, 0, 2, 0, 5, 0, 0, []⟩
def rL2 : RegS := ⟨2, 0, [], 0⟩
def rL4 : RegS := ⟨2, 2, [eL1, eL2], 1⟩
def gL1 : Int → Option (Int × Int) := grantL (fun _ => none) 0 2 3
theorem mayL1 : mayL 0 ((fun _ => none : Int → Option (Int × Int)) 0) 2 3 = true := rfl
theorem mayL2 : mayL 0 (gL1 0) 1 3 = false := by decide
theorem sayL1 : takeS reg0 true mL1 = ⟨[⟨1, 0, 2, 0, 0, 0, []⟩], [⟨2, 0, 1, 0, 2, 0, 0, 0, 7, []⟩], 1⟩ := rfl
theorem sayL2 : takeS rL2 false mL2 = ⟨[], [⟨3, 0, 2, 0, 2, 0, 0, 0, 0, []⟩], 0⟩ := rfl
theorem sayL3 (may : Bool) : takeS rL2 may mL3 = ⟨[⟨2, 0, 2, 0, 0, 0, [eL1, eL2]⟩, ⟨3, 0, 0, 0, 0, 1, []⟩], [⟨5, 0, 1, 0, 2, 0, 0, 2, 9, []⟩], 1⟩ := rfl
theorem sayL4 (may : Bool) : takeS rL4 may mL4 = ⟨[], [⟨6, 0, 1, 0, 2, 0, 0, 2, 0, []⟩], 0⟩ := rfl

theorem map_one {α β : Type} {f : α → β} {l : List α} {b : β} (h : l.map f = [b]) : ∃ a, l = [a] ∧ f a = b := by
  match l, h with
  | [a], h => exact ⟨a, rfl, by simpa using h⟩
theorem map_two {α β : Type} {f : α → β} {l : List α} {b c : β} (h : l.map f = [b, c]) : ∃ a d, l = [a, d] ∧ f a = b ∧ f d = c := by
  match l, h with
  | [a, d], h => exact ⟨a, d, rfl, by simpa using h⟩
theorem map_none {α β : Type} {f : α → β} {l : List α} (h : l.map f = []) : l = [] := List.map_eq_nil_iff.1 h
/-- The one piece of mail. -/
theorem mail_one_at {w : World} {A : Option Addr} {y : MailV} (h : Mails w w.heap.size A [y]) : ∃ b o, A = some ⟨b, o, none⟩ ∧ (w.cell? ⟨b, o, none⟩ = some (.int .i64 y.m.kind) ∧ w.cell? ⟨b, o + 2, none⟩ = some (.int .i64 y.m.to) ∧ w.cell? ⟨b, o + 4, none⟩ = some (.int .i64 y.m.epoch) ∧ w.cell? ⟨b, o + 7, none⟩ = some (.int .i64 y.m.len) ∧ w.cell? ⟨b, o + 8, none⟩ = some (.int .i64 y.m.stamp)) := by
  obtain ⟨b, o, x, ha, hx, _, hc, _⟩ := h.at_ (k := 0) (by simp)
  obtain rfl : y = x := Option.some.inj hx.out
  refine ⟨b, o, ha, ?_⟩
  have h := hc w (Below.refl _ _)
  rw [Nat.zero_mul, Nat.add_zero] at h
  exact ⟨h 0 (by omega), h 2 (by omega), h 4 (by omega), h 7 (by omega), h 8 (by omega)⟩
/-- The k-th record. -/
theorem rec_cells {w : World} {A : Option Addr} {l : List RecV} (h : Rcs w w.heap.size A l) {k : Nat} {y : RecV} (hk : l[k]? = some y) : ∃ b o, A = some ⟨b, o, none⟩ ∧ w.cell? ⟨b, o + k * 8, none⟩ = some (.int .i64 y.kind) ∧ w.cell? ⟨b, o + k * 8 + 2, none⟩ = some (.int .i64 y.epoch) ∧ w.cell? ⟨b, o + k * 8 + 5, none⟩ = some (.int .i64 y.len) := by
  obtain ⟨b, o, x, ha, hx, hc, _⟩ := h.at8 (List.getElem?_eq_some_iff.1 hk).1
  obtain rfl : y = x := by have := hx.out; rw [hk] at this; exact Option.some.inj this
  obtain ⟨c0, c1, c2, c3, c4, c5, _⟩ := hc w (Below.refl _ _)
  exact ⟨b, o, ha, c0, c2, c5⟩

def mV (m : MailS) (s : SlcE) : MailV := ⟨m, s, (0, 0, 0, 0, 0), (0, 0, 0)⟩
theorem log_two (w : World) (g : Nat) (a b : Ent) (h : Blk w g 64 (vals a ++ vals b)) : LogAt w w.heap.size (some ⟨g, 0, none⟩, 2, 2) [a, b] := by
  refine ⟨rfl, Nat.le_refl _, by simp, fun _ => ⟨g, 0, rfl, h.lt, fun i x hx => ?_⟩⟩
  have hi := (List.getElem?_eq_some_iff.1 hx).1
  have h2 : i = 0 ∨ i = 1 := by simp at hi; omega
  rcases h2 with rfl | rfl
  · obtain rfl : a = x := Option.some.inj hx
    exact ⟨h.cell 0, h.cell 1, h.cell 2, h.cell 3, h.cell 4, h.cell 5⟩
  · obtain rfl : b = x := Option.some.inj hx
    exact ⟨h.cell 6, h.cell 7, h.cell 8, h.cell 9, h.cell 10, h.cell 11⟩
/-- What stands between two calls. -/
def LvI (w W : World) (b m n : Nat) (G : Int → Option (Int × Int)) : Prop := Below w.heap.size w W ∧ LogAt W W.heap.size (some ⟨w.heap.size + 1, 0, none⟩, 2, 2) [eL1, eL2] ∧ Bk W b m n 0 G ∧ w.heap.size ≤ m
theorem LvI.take {w W W' : World} {b m n n' : Nat} {G G' : Int → Option (Int × Int)} (h : LvI w W b m n G) (hB : Bk W' b m n' 0 G') (hK : Kept W W' (some m) none) : LvI w W' b m n' G' :=
  ⟨h.1.trans (hK.below (B := w.heap.size) (fun k e => by cases e; exact h.2.2.2) (fun k e => by cases e) h.1.size), h.2.1.turned h.2.2.1 hK, hB, h.2.2.2⟩
theorem LvI.keep {w W W' : World} {b m n : Nat} {G : Int → Option (Int × Int)} (h : LvI w W b m n G) (hb : Below W.heap.size W W') : LvI w W' b m n G :=
  ⟨below_trans h.1 hb h.1.size, h.2.1.keep hb, h.2.2.1.below hb, h.2.2.2⟩

set_option maxHeartbeats 8000000 in
theorem lives19_any (w : World) : Calls Try.prog 11 #[] w fun e w' => e = .returned (.bool true) ∧ Below w.heap.size w w' := by
  go_enter Try.func11, Try.ntmps11
  go_wp2_with ((with_reducible refine at_list ?_); (with_reducible refine cut_at 13 rfl ?_))
  refine Cut.go ?_
  refine abs_list (fun W => Below w.heap.size w W ∧ Blk W (w.heap.size + 1) 64 (vals eL1 ++ vals eL2)) ⟨((Below.refl _ _).alloc (Nat.le_refl _) _).alloc (by simp) _, Blk.newAt _ _ (vals eL1 ++ vals eL2) (by simp)⟩ ?_
  rintro w0 ⟨hw0, hE0⟩
  have H0 := Lib.hid (And.intro hw0 (log_two w0 _ eL1 eL2 hE0))
  clear hw0 hE0
  go_wp2_with fail
  refine (lnew_any 0 (by decide) false _).mono ?_
  rintro e w1 ⟨b, m, rfl, hB, hb1, hbb, hbm⟩
  have H1 := Lib.hid (show LvI w w1 b m 0 (fun _ => none) from ⟨below_trans H0.out.1 hb1 H0.out.1.size, H0.out.2.keep hb1, hB, by have := H0.out.1.size; omega⟩)
  clear hB hb1 hbb hbm H0
  go_wp2_with fail
  have hT := take_any reg0 (none, 0, 0) b m 0 0 (fun _ => none) (mV mL1 (none, 0, 0)) 3 w1 H1.out.2.2.1 (by unfold maxLen; omega) (by decide) LogAt.nil LogAt.nil (by decide)
  have hs : takeS reg0 (mayL 0 ((fun _ => none : Int → Option (Int × Int)) (mV mL1 (none, 0, 0)).m.stream) (mV mL1 (none, 0, 0)).m.epoch 3) (mV mL1 (none, 0, 0)).m = ⟨[⟨1, 0, 2, 0, 0, 0, []⟩], [⟨2, 0, 1, 0, 2, 0, 0, 0, 7, []⟩], 1⟩ := sayL1
  rw [hs] at hT
  have HT := Lib.hid hT
  clear hT hs
  refine HT.out.mono ?_
  clear HT
  rintro e w2 ⟨⟨A1, c1, A2, c2, xs, ys, rfl, hR, hM, hxs, hys, -, -⟩, hB2, hK2⟩
  obtain ⟨x1, rfl, hx1⟩ := map_one hxs
  obtain ⟨y1, rfl, hy1⟩ := map_one hys
  have H2 := Lib.hid (show LvI w w2 b m 1 gL1 from H1.out.take hB2 hK2)
  obtain ⟨b3, o3, rfl, k0, k2, k5⟩ := rec_cells hR (k := 0) rfl
  obtain ⟨b4, o4, rfl, n0, n2, n4, n7, n8⟩ := mail_one_at hM
  rw [Nat.zero_mul, Nat.add_zero] at k0 k2
  rw [show x1.kind = 1 from congrArg RecS.kind hx1] at k0
  rw [show x1.epoch = 2 from congrArg RecS.epoch hx1] at k2
  rw [show y1.m.kind = 2 from congrArg MailS.kind hy1] at n0
  rw [show y1.m.to = 1 from congrArg MailS.to hy1] at n2
  rw [show y1.m.stamp = 7 from congrArg MailS.stamp hy1] at n8
  clear hR hM hxs hys hx1 hy1 hB2 hK2 k5 n4 n7 H1
  go_wp2_with ((with_reducible refine at_list ?_); (with_reducible refine cut_at 66 rfl ?_))
  refine Cut.go ?_
  clear k0 k2 n0 n2 n8
  refine abs_list (fun W => LvI w W b m 1 gL1 ∧ Blk W w2.heap.size 37 (rgv rL2 (none, 0, 0))) ⟨H2.out.keep ((Below.refl _ _).alloc (Nat.le_refl _) _), Blk.new w2 37 (rgv rL2 (none, 0, 0))⟩ ?_
  have hgw := H2.out.1.size
  clear H2
  rintro w3 h3
  have H3 := Lib.hid h3
  clear h3
  generalize w2.heap.size = gt at H3 hgw ⊢
  have hT := take_any rL2 (none, 0, 0) b m 1 0 gL1 (mV mL2 (none, 0, 0)) 3 w3 H3.out.1.2.2.1 (by unfold maxLen; omega) (by decide) LogAt.nil LogAt.nil (by decide)
  have hs : takeS rL2 (mayL 0 (gL1 (mV mL2 (none, 0, 0)).m.stream) (mV mL2 (none, 0, 0)).m.epoch 3) (mV mL2 (none, 0, 0)).m = ⟨[], [⟨3, 0, 2, 0, 2, 0, 0, 0, 0, []⟩], 0⟩ := by
    rw [show mayL 0 (gL1 (mV mL2 (none, 0, 0)).m.stream) (mV mL2 (none, 0, 0)).m.epoch 3 = false from mayL2]
    exact sayL2
  rw [hs] at hT
  have HT := Lib.hid hT
  clear hT hs
  go_wp2_with ((with_reducible refine at_list ?_); first | refine wpList_load_blk rfl 37 _ rfl _ rfl _ _ _ (H3.out.2) Try.underlying37 rfl rg_info ?_)
  refine HT.out.mono ?_
  clear HT
  rintro e w4 ⟨⟨A1, c1, A2, c2, xs, ys, rfl, hR, hM, hxs, hys, -, -⟩, hB4, hK4⟩
  obtain ⟨y1, rfl, hy1⟩ := map_one hys
  have H4 := Lib.hid (And.intro (show LvI w w4 b m 2 gL1 from H3.out.1.take hB4 hK4) (hK4.blk H3.out.2 (fun e => H3.out.1.2.2.1.notBlk H3.out.2 (Option.some.inj e)) (by simp)))
  obtain ⟨b4, o4, rfl, n0, n2, n4, n7, n8⟩ := mail_one_at hM
  rw [show y1.m.kind = 3 from congrArg MailS.kind hy1] at n0
  rw [show y1.m.epoch = 2 from congrArg MailS.epoch hy1] at n4
  clear hR hM hxs hys hy1 hB4 hK4 n2 n7 n8 H3
  have hT := take_any rL2 (none, 0, 0) b m 2 0 gL1 (mV mL3 (some ⟨w.heap.size + 1, 0, none⟩, 2, 2)) 3 w4 H4.out.1.2.2.1 (by unfold maxLen; omega) (by decide) LogAt.nil H4.out.1.2.1 (show (2 : Nat) ≤ 1000 from by decide)
  have hs := sayL3 (mayL 0 (gL1 (mV mL3 (some ⟨w.heap.size + 1, 0, none⟩, 2, 2)).m.stream) (mV mL3 (some ⟨w.heap.size + 1, 0, none⟩, 2, 2)).m.epoch 3)
  rw [show takeS rL2 (mayL 0 (gL1 (mV mL3 (some ⟨w.heap.size + 1, 0, none⟩, 2, 2)).m.stream) (mV mL3 (some ⟨w.heap.size + 1, 0, none⟩, 2, 2)).m.epoch 3) (mV mL3 (some ⟨w.heap.size + 1, 0, none⟩, 2, 2)).m = _ from hs] at hT
  have HT := Lib.hid hT
  clear hT hs
  go_wp2_with ((with_reducible refine at_list ?_); first | refine wpList_load_blk rfl 37 _ rfl _ rfl _ _ _ (H4.out.2) Try.underlying37 rfl rg_info ?_)
  clear n0 n4
  refine HT.out.mono ?_
  clear HT
  rintro e w5 ⟨⟨A1, c1, A2, c2, xs, ys, rfl, hR, hM, hxs, hys, -, -⟩, hB5, hK5⟩
  obtain ⟨x1, x2, rfl, hx1, hx2⟩ := map_two hxs
  obtain ⟨y1, rfl, hy1⟩ := map_one hys
  have H5 := Lib.hid (And.intro (show LvI w w5 b m 3 (grantL gL1 0 2 3) from H4.out.1.take hB5 hK5) (hK5.blk H4.out.2 (fun e => H4.out.1.2.2.1.notBlk H4.out.2 (Option.some.inj e)) (by simp)))
  obtain ⟨b3, o3, rfl, k0, k2, k5⟩ := rec_cells hR (k := 1) rfl
  obtain ⟨b4, o4, rfl, n0, n2, n4, n7, n8⟩ := mail_one_at hM
  rw [Nat.one_mul] at k0 k5
  rw [show x2.kind = 3 from congrArg RecS.kind hx2] at k0
  rw [show x2.len = 1 from congrArg RecS.len hx2] at k5
  rw [show y1.m.kind = 5 from congrArg MailS.kind hy1] at n0
  rw [show y1.m.len = 2 from congrArg MailS.len hy1] at n7
  rw [show y1.m.stamp = 9 from congrArg MailS.stamp hy1] at n8
  clear hR hM hxs hys hx1 hx2 hy1 hB5 hK5 k2 n2 n4 H4
  go_wp2_with ((with_reducible refine at_list ?_); first | (with_reducible refine cut_at 143 rfl ?_) | (refine wpList_store_own rfl 37 _ _ rfl _ (rgv rL4 (some ⟨w.heap.size + 1, 0, none⟩, 2, 2)) rfl rfl _ _ (H5.out.2) rg_info rfl (rgv_one _ _) ?_; intro w6 B6 g6))
  refine Cut.go ?_
  clear k0 k5 n0 n7 n8
  have hl6 := H5.out.1.2.1.stored H5.out.2 (by simp [rgv]) g6
  have hb6 : Below w.heap.size w w6 := H5.out.1.1.trans (below_grown g6 hgw H5.out.1.1.size)
  have hk6 : Bk w6 b m 3 0 (grantL gL1 0 2 3) := H5.out.1.2.2.1.kept g6 (fun e => by
    have h1 := H5.out.2
    have h2 := H5.out.1.2.2.1.1
    cases e
    unfold Blk at h1
    simp [World.cell?, h1, rgv] at h2) (fun e => H5.out.1.2.2.1.notBlk H5.out.2 (Option.some.inj e).symm)
  have H6 := Lib.hid (And.intro (show LvI w w6 b m 3 (grantL gL1 0 2 3) from ⟨hb6, hl6, hk6, H5.out.1.2.2.2⟩) B6)
  clear hl6 hb6 hk6 B6 g6 H5
  have hT := take_any rL4 (some ⟨w.heap.size + 1, 0, none⟩, 2, 2) b m 3 0 (grantL gL1 0 2 3) (mV mL4 (none, 0, 0)) 3 w6 H6.out.1.2.2.1 (by unfold maxLen; omega) (by decide) H6.out.1.2.1 LogAt.nil (by decide)
  have hs := sayL4 (mayL 0 (grantL gL1 0 2 3 (mV mL4 (none, 0, 0)).m.stream) (mV mL4 (none, 0, 0)).m.epoch 3)
  rw [show takeS rL4 (mayL 0 (grantL gL1 0 2 3 (mV mL4 (none, 0, 0)).m.stream) (mV mL4 (none, 0, 0)).m.epoch 3) (mV mL4 (none, 0, 0)).m = _ from hs] at hT
  have HT := Lib.hid hT
  clear hT hs
  go_wp2_with ((with_reducible refine at_list ?_); first | refine wpList_load_blk rfl 37 _ rfl _ rfl _ _ _ (H6.out.2) Try.underlying37 rfl rg_info ?_)
  refine HT.out.mono ?_
  clear HT
  rintro e w7 ⟨⟨A1, c1, A2, c2, xs, ys, rfl, hR, hM, hxs, hys, -, -⟩, hB7, hK7⟩
  obtain rfl := map_none hxs
  obtain ⟨y1, rfl, hy1⟩ := map_one hys
  have H7 := Lib.hid (H6.out.1.take hB7 hK7).1
  obtain ⟨b4, o4, rfl, n0, n2, n4, n7, n8⟩ := mail_one_at hM
  rw [show y1.m.kind = 6 from congrArg MailS.kind hy1] at n0
  rw [show y1.m.len = 2 from congrArg MailS.len hy1] at n7
  clear hR hM hxs hys hy1 hB7 hK7 n2 n4 n8 H6
  go_wp2_with fail
  go_ret
  exact ⟨rfl, H7.out⟩
end Go.Proofs.Ytdphfhenjndkkaa

set_option linter.unusedSimpArgs false
set_option linter.unusedVariables false
set_option maxRecDepth 100000
namespace Go.Proofs.Ytdphfhenjndkkaa
open Go Go.RowKit Go.Sq Go.Wd Go.Arch

/-- What stays of a register. -/
def StaysR (r n : RegS) : Prop := mayR n = true ∧ r.com ≤ n.com ∧ n.log.take r.com.toNat = r.log.take r.com.toNat
theorem may_com {r : RegS} (h : mayR r = true) : 0 ≤ r.com ∧ r.com ≤ r.log.length ∧ r.log.length ≤ 64 := by
  obtain ⟨_, h2, h3, h4⟩ := (mayR_iff r).1 h
  exact ⟨h3, h4, ((okLog_iff _ _).1 h2).1⟩
theorem stays_refl {r : RegS} (h : mayR r = true) : StaysR r r := ⟨h, Int.le_refl _, rfl⟩
theorem stays_trans {r n q : RegS} (h : StaysR r n) (h' : StaysR n q) : StaysR r q := by
  refine ⟨h'.1, Int.le_trans h.2.1 h'.2.1, ?_⟩
  have h2 := congrArg (List.take r.com.toNat) h'.2.2
  rw [List.take_take, List.take_take, Nat.min_eq_left (by have := h.2.1; omega)] at h2
  rw [h2, h.2.2]
theorem stays_apply {r a : RegS} {x : RecS} (h : applyR r x = some a) : StaysR r a := by
  have h1 := apply_stays h
  have hc := may_com (apply_may h)
  have hle : r.com.toNat ≤ keepsR r a := by
    unfold keepsR
    split <;> omega
  have h2 := congrArg (List.take r.com.toNat) h1.2.2.2.2.2
  rw [List.take_take, List.take_take, Nat.min_eq_left hle] at h2
  exact ⟨h1.1, h1.2.2.2.1, h2⟩
theorem stays_applied (S : List RecS) (r : RegS) (h : mayR r = true) : StaysR r (appliedS r S) := by
  induction S generalizing r with
  | nil => exact stays_refl h
  | cons x S ih =>
    show StaysR r (appliedS ((applyR r x).getD r) S)
    cases hA : applyR r x with
    | none => exact ih r h
    | some a => exact stays_trans (stays_apply hA) (ih a (stays_apply hA).1)
/-- Mail that promises, or acknowledges, is of an epoch that may be. -/
def KindOk (r : RegS) (m y : MailS) : Prop := (y.kind = 2 ∨ y.kind = 5) → ¬ m.epoch < r.prom ∧ y.to = m.from_ ∧ y.from_ = m.to ∧ y.stamp = m.stamp
theorem take_kinds (r : RegS) (may : Bool) (m : MailS) : ∀ y ∈ (takeS r may m).back, KindOk r m y := by
  intro y hy
  unfold takeS at hy
  split at hy
  case isFalse => cases hy
  split at hy
  · unfold prepS at hy
    split at hy
    case isTrue h =>
      rw [List.mem_singleton.1 hy]
      exact fun _ => ⟨by omega, rfl, rfl, rfl⟩
    case isFalse h =>
      rw [List.mem_singleton.1 hy]
      intro h
      rcases h with h | h <;> cases h
  · split at hy
    · unfold layS at hy
      split at hy
      · rw [List.mem_singleton.1 hy]
        intro h
        rcases h with h | h <;> cases h
      case isFalse h1 =>
      split at hy
      · rw [List.mem_singleton.1 hy]
        intro h
        rcases h with h | h <;> cases h
      split at hy
      · cases hy
      · rw [List.mem_singleton.1 hy]
        exact fun _ => ⟨h1, rfl, rfl, rfl⟩
    · split at hy <;> cases hy
theorem take_below (r : RegS) (may : Bool) (m : MailS) (h : m.epoch < r.prom) : (takeS r may m).recs = [] := by
  unfold takeS
  split
  case isFalse => rfl
  split
  · unfold prepS
    rw [if_neg (by omega)]
  · split
    · unfold layS
      rw [if_pos h]
    · split <;> rfl
theorem take_ents (r : RegS) (may : Bool) (m : MailS) : ∀ y ∈ (takeS r may m).recs, y.ents.length ≤ r.log.length + m.ents.length := by
  intro y hy
  unfold takeS at hy
  split at hy
  case isFalse => cases hy
  split at hy
  · unfold prepS at hy
    split at hy
    · rw [List.mem_singleton.1 hy]; simp [recP]
    · cases hy
  · split at hy
    · unfold layS at hy
      split at hy
      · cases hy
      split at hy
      · cases hy
      split at hy
      · cases hy
      case h_2 l q hg =>
        rcases List.mem_append.1 hy with h | h
        · unfold grownS at hg
          split at hg
          · split at hg
            · cases hg; cases h
            · split at hg
              · cases hA : applyR r (recV m r.log.length ((joinM r m).drop r.log.length)) with
                | none => rw [hA] at hg; cases hg
                | some a =>
                  rw [hA] at hg
                  cases hg
                  rw [List.mem_singleton.1 h]
                  show ((joinM r m).drop r.log.length).length ≤ _
                  unfold joinM
                  rw [List.length_drop, List.length_append, List.length_take]
                  omega
              · cases hg
          · cases hA : applyR r (recV m m.base m.ents) with
            | none => rw [hA] at hg; cases hg
            | some a =>
              rw [hA] at hg
              cases hg
              rw [List.mem_singleton.1 h]
              show m.ents.length ≤ _
              omega
        · unfold comS at h
          split at h
          · rw [List.mem_singleton.1 h]; simp [recC]
          · cases h
    · split at hy <;> cases hy
theorem take_few (r : RegS) (may : Bool) (m : MailS) : (takeS r may m).recs.length ≤ 2 ∧ (takeS r may m).back.length ≤ 1 := by
  unfold takeS
  split
  case isFalse => exact ⟨by simp [nothing], by simp [nothing]⟩
  split
  · unfold prepS
    split <;> exact ⟨by simp, by simp⟩
  · split
    · unfold layS
      split
      · exact ⟨by simp, by simp⟩
      split
      · exact ⟨by simp, by simp⟩
      split
      · exact ⟨by simp [nothing], by simp [nothing]⟩
      case h_2 l q hg =>
        have h1 := grown_few hg
        have h2 : (comS q m).length ≤ 1 := by unfold comS; split <;> simp
        exact ⟨by show (l ++ comS q m).length ≤ 2; rw [List.length_append]; omega, by simp⟩
    · split <;> exact ⟨by simp [nothing], by simp [nothing]⟩
theorem same_sl (l m : List Ent) (sl sm : SlcE) (w : World) (hl : LogAt w w.heap.size sl l) (hm : LogAt w w.heap.size sm m) (h : l = m) :
    Calls Try.prog 22 #[.slice sl.1 sl.2.1 sl.2.2, .slice sm.1 sm.2.1 sm.2.2] w fun e w' => e = .returned (.bool true) ∧ Below w.heap.size w w' := by
  subst h
  obtain ⟨A, n, c⟩ := sl
  obtain ⟨B, k, d⟩ := sm
  obtain rfl : n = l.length := hl.1
  obtain rfl : k = l.length := hm.1
  have hs := same_any l l A B c d w hl.2.2.2 hm.2.2.2 (Nat.le_trans hl.2.1 hl.2.2.1) (Nat.le_trans hm.2.1 hm.2.2.1)
  rw [decide_eq_true rfl] at hs
  exact hs
/-- Mail of stream 1. -/
def st1 (x : MailV) : MailV := ⟨{ x.m with stream := 1 }, x.es, x.o, x.an⟩
theorem st1_set (x : MailV) : (mailv x).set 3 (.int .i64 1) = mailv (st1 x) := rfl
/-- Between two pieces of mail: the register, the book. -/
def RfI (w W : World) (gr : Nat) (r : RegS) (s : SlcE) (b m n : Nat) (g0 : Int) (G : Int → Option (Int × Int)) : Prop :=
  Below w.heap.size w W ∧ Blk W gr 37 (rgv r s) ∧ LogAt W W.heap.size s r.log ∧ Bk W b m n g0 G ∧ w.heap.size ≤ m ∧ w.heap.size ≤ gr
theorem RfI.keep {w W W' : World} {gr : Nat} {r : RegS} {s : SlcE} {b m n : Nat} {g0 : Int} {G : Int → Option (Int × Int)} (h : RfI w W gr r s b m n g0 G) (hb : Below W.heap.size W W') : RfI w W' gr r s b m n g0 G :=
  ⟨below_trans h.1 hb h.1.size, h.2.1.keep hb, h.2.2.1.keep hb, h.2.2.2.1.below hb, h.2.2.2.2⟩
theorem RfI.take {w W W' : World} {gr : Nat} {r : RegS} {s : SlcE} {b m n n' : Nat} {g0 : Int} {G G' : Int → Option (Int × Int)} (h : RfI w W gr r s b m n g0 G) (hB : Bk W' b m n' g0 G') (hK : Kept W W' (some m) none) : RfI w W' gr r s b m n' g0 G' :=
  ⟨h.1.trans (hK.below (B := w.heap.size) (fun k e => by cases e; exact h.2.2.2.2.1) (fun k e => by cases e) h.1.size), hK.blk h.2.1 (fun e => h.2.2.2.1.notBlk h.2.1 (Option.some.inj e)) (by simp), h.2.2.1.turned h.2.2.2.1 hK, hB, h.2.2.2.2⟩
theorem Bk.other {w w' : World} {b m n g : Nat} {gr : Int} {G : Int → Option (Int × Int)} {T : TypeId} {cs : List Value} (h : Bk w b m n gr G) (hZ : Blk w g T cs) (hT : ∃ z, cs[0]? = some (.int .i64 z)) (hg : w.grownBy w' (some g)) : Bk w' b m n gr G :=
  h.kept hg (fun e => by
    have h2 := h.1
    obtain ⟨z, hz⟩ := hT
    cases e
    rw [hZ.cell, hz] at h2
    cases h2) (fun e => h.notBlk hZ (Option.some.inj e).symm)
/-- The register overwritten. -/
theorem RfI.put {w W W' : World} {gr : Nat} {r q : RegS} {s s' : SlcE} {b m n : Nat} {g0 : Int} {G : Int → Option (Int × Int)} (h : RfI w W gr r s b m n g0 G) (hq : LogAt W W.heap.size s' q.log) (hB : Blk W' gr 37 (rgv q s')) (hg : W.grownBy W' (some gr)) : RfI w W' gr q s' b m n g0 G :=
  ⟨h.1.trans (below_grown hg h.2.2.2.2.2 h.1.size), hB, hq.stored h.2.1 (by simp [rgv]) hg, h.2.2.2.1.other h.2.1 ⟨_, rfl⟩ hg, h.2.2.2.2⟩
end Go.Proofs.Ytdphfhenjndkkaa

set_option linter.unusedSimpArgs false
set_option linter.unusedVariables false
set_option maxRecDepth 100000
namespace Go.Proofs.Ytdphfhenjndkkaa
open Go Go.RowKit Go.Sq Go.Wd Go.Arch

/-- Mail of which no more is handed in than is looked at. -/
def Few (l : List MailV) : Prop := l.length ≤ 60 ∧ ∀ x ∈ l, x.m.ents.length ≤ 100
def Bey19 (F : Prop) (w : World) (e : Ending) (w' : World) : Prop := ∃ y, e = .returned (.bool y) ∧ (y = false → F) ∧ Below w.heap.size w w'

set_option maxHeartbeats 2000000 in
theorem beyond19_any (l : List MailV) (A : Option Addr) (c : Nat) (w : World) (hl : Mails w w.heap.size A l) (hll : l.length ≤ 9223372036854775807) :
    Calls Try.prog 10 #[.slice A l.length c] w fun e w' => Bey19 (Few l) w e w' := by
  have HH := Lib.hid hl
  have hz := Below.refl w.heap.size w
  clear hl
  by_cases h2 : 60 < l.length
  · have h2' : (60 : Int) < (l.length : Int) := by omega
    go_enter Try.func10, Try.ntmps10
    go_wp2_with fail
    go_ret
    exact ⟨true, rfl, by simp, hz⟩
  have h2' : ¬ (60 : Int) < (l.length : Int) := by omega
  go_enter Try.func10, Try.ntmps10
  go_wp2_with fail
  go_loopg [3] l.length (fun q i wr => ∃ j : Nat, q = l.length - j ∧ j ≤ l.length ∧ i = .int .i64 j ∧ Below w.heap.size w wr ∧ ∀ x ∈ l.take j, x.m.ents.length ≤ 100)
  case atStart => exact ⟨0, rfl, by omega, rfl, hz, by simp⟩
  case round =>
    clear hz
    obtain ⟨j, hq, hj, rfl, hwr, hno⟩ := hrel
    have AA : Aside (gk = l.length - j ∧ ∀ x ∈ l.take j, x.m.ents.length ≤ 100) := ⟨hq, hno⟩
    clear hq hno
    by_cases hlt : j < l.length
    · have j0 : (0 : Int) ≤ (j : Int) := by omega
      have j1 : (j : Int) < (l.length : Int) := by omega
      obtain ⟨b1, o1, x, rfl, hx, _, FA, hLx⟩ := HH.out.at_ hlt
      have hn : x.es.2.1 = x.m.ents.length := hLx.out.1
      have c9 : wr.cell? ⟨b1, o1 + j * 18 + 9, none⟩ = some (.slice x.es.1 x.es.2.1 x.es.2.2) := FA wr hwr 9 (by omega)
      rw [hn] at c9
      clear FA hn
      by_cases h3 : 100 < x.m.ents.length
      · have h3' : (100 : Int) < (x.m.ents.length : Int) := by omega
        go_wp2_with fail
        go_ret
        exact ⟨true, rfl, by simp, hwr⟩
      · have h3' : ¬ (100 : Int) < (x.m.ents.length : Int) := by omega
        go_wp2_with fail
        go_roundg (l.length - (j + 1))
        case measure => have hkk := AA.out.1; omega
        case rel =>
          refine ⟨j + 1, rfl, by omega, by go_num, hwr, fun z hz => ?_⟩
          rw [List.take_add_one, hx.out] at hz
          rcases List.mem_append.1 hz with hz | hz
          · exact AA.out.2 z hz
          · obtain rfl : z = x := by simpa using hz
            omega
    · obtain rfl : j = l.length := by omega
      have hfit : Hid (Few l) := Lib.hid ⟨by omega, by have := AA.out.2; rwa [List.take_length] at this⟩
      have j1 : ¬ (l.length : Int) < (l.length : Int) := by omega
      go_wp2_with fail
      go_ret
      exact ⟨false, rfl, fun _ => hfit.out, hwr⟩
end Go.Proofs.Ytdphfhenjndkkaa

set_option linter.unusedSimpArgs false
set_option linter.unusedVariables false
set_option maxRecDepth 100000
namespace Go.Proofs.Ytdphfhenjndkkaa
open Go Go.RowKit Go.Sq Go.Wd Go.Arch Go.Im

def FarS (B : Nat) (s : SlcE) : Prop := ∀ b o, s.1 = some ⟨b, o, none⟩ → B ≤ b
theorem FarS.none {B n c : Nat} : FarS B (none, n, c) := fun b o h => by cases h
theorem FarS.less {B B' : Nat} {s : SlcE} (h : FarS B s) (hB : B' ≤ B) : FarS B' s := fun b o e => Nat.le_trans hB (h b o e)
def LogF (B : Nat) (w : World) (s : SlcE) (l : List Ent) : Prop := LogAt w w.heap.size s l ∧ FarS B s
theorem LogF.keep {B : Nat} {w w' : World} {s : SlcE} {l : List Ent} (h : LogF B w s l) (hb : Below w.heap.size w w') : LogF B w' s l := ⟨h.1.keep hb, h.2⟩
theorem LogF.stored {B g : Nat} {w w' : World} {T : TypeId} {cs : List Value} {s : SlcE} {l : List Ent} (h : LogF B w s l) (hZ : Blk w g T cs) (hc : cs.length ≤ 5) (hg : w.grownBy w' (some g)) : LogF B w' s l := ⟨h.1.stored hZ hc hg, h.2⟩
theorem apply_far {B : Nat} {r q : RegS} {b : Bool} (sl : SlcE) (x : RecV) (w : World) (hB : B ≤ w.heap.size) (h : regR (applyR r x.s) = (q, b)) (hl : LogAt w w.heap.size sl r.log) (hx : LogAt w w.heap.size x.es x.ents) (hx2 : x.ents.length ≤ 1000) :
    Calls Try.prog 17 #[.agg (rgv r sl).toArray, .agg (rcv x).toArray] w fun e w' => ∃ s : SlcE, e = .returned (.tuple #[.agg (rgv q s).toArray, .bool b]) ∧ LogF B w' s q.log ∧ Below w.heap.size w w' := by
  refine (apply_any r sl x w hl hx hx2).mono ?_
  rintro e w1 ⟨s, he, hL, hb⟩
  rw [h] at he hL
  exact ⟨s, he, ⟨hL.1, fun b o e => Nat.le_trans hB (hL.2 b o e)⟩, hb⟩

set_option maxHeartbeats 8000000 in
theorem applied_far (B : Nat) (r0 : RegS) (sl : SlcE) (l : List RecV) (A : Option Addr) (c : Nat) (w : World) (hB0 : B ≤ w.heap.size) (hr : LogF B w sl r0.log) (hl : Rcs w w.heap.size A l) (hn : l.length ≤ 9223372036854775807) (hn2 : ∀ x ∈ l, x.ents.length ≤ 1000) :
    Calls Try.prog 19 #[.agg (rgv r0 sl).toArray, .slice A l.length c] w fun e w' => ∃ s : SlcE, e = .returned (.agg (rgv (appliedS r0 (l.map RecV.s)) s).toArray) ∧ LogF B w' s (appliedS r0 (l.map RecV.s)).log ∧ Below w.heap.size w w' := by
  have HE := Lib.hid (And.intro hl hn2)
  have hw0 : Below w.heap.size w ((w.alloc (.cells (rgv r0 sl).toArray 37)).alloc (.cells (rgv reg0 (none, 0, 0)).toArray 37)) := ((Below.refl _ _).alloc (Nat.le_refl _) _).alloc (by simp) _
  have B1 : Blk ((w.alloc (.cells (rgv r0 sl).toArray 37)).alloc (.cells (rgv reg0 (none, 0, 0)).toArray 37)) w.heap.size 37 (rgv r0 sl) := (Blk.new w _ _).alloc _
  have B0 : Blk ((w.alloc (.cells (rgv r0 sl).toArray 37)).alloc (.cells (rgv reg0 (none, 0, 0)).toArray 37)) (w.heap.size + 1) 37 (rgv reg0 (none, 0, 0)) := Blk.newAt _ _ _ (by simp)
  have HH := Lib.hid (And.intro hw0 (And.intro B0 (And.intro B1 (hr.keep hw0))))
  clear hw0 B0 B1 hl hn2 hr
  go_enter Try.func19, Try.ntmps19
  go_wp2_with fail
  go_loopg [5] l.length (fun q i wr => ∃ (j : Nat) (s : SlcE), q = l.length - j ∧ j ≤ l.length ∧ i = .int .i64 j ∧ Below w.heap.size w wr ∧ Blk wr (w.heap.size + 1) 37 (rgv reg0 (none, 0, 0)) ∧ Blk wr w.heap.size 37 (rgv (appliedS r0 ((l.map RecV.s).take j)) s) ∧ LogF B wr s (appliedS r0 ((l.map RecV.s).take j)).log)
  case atStart => exact ⟨0, sl, rfl, by omega, rfl, HH.out.1, HH.out.2.1, HH.out.2.2.1, HH.out.2.2.2⟩
  case round =>
    clear HH
    obtain ⟨j, s, hq, hj, rfl, hB, B0, B1, hS⟩ := hrel
    have AA : Aside (gk = l.length - j) := hq
    clear hq
    obtain ⟨wq, rfl⟩ : ∃ z, z = wr := ⟨_, rfl⟩
    by_cases hlt : j < l.length
    · obtain ⟨b1, o1, x, rfl, hx, FA, HX⟩ := HE.out.1.at8 hlt
      have hx2 := HE.out.2 x (List.mem_of_getElem? hx.out)
      obtain ⟨⟨q, b⟩, hqb⟩ : ∃ z, regR (applyR (appliedS r0 ((l.map RecV.s).take j)) x.s) = z := ⟨_, rfl⟩
      have HN := Lib.hid (appliedS_next (r := r0) (S := l.map RecV.s) (j := j) (x := x.s) (by rw [List.getElem?_map, hx.out]; rfl))
      generalize appliedS r0 ((l.map RecV.s).take j) = r at B1 hS hqb HN ⊢
      have HQ := Lib.hid hqb
      clear hqb
      have HS := Lib.hid hS
      clear hS
      have hz := hB.size
      go_wp2_with fail
      refine wp_region_t (.quiet 0 (.quiet 1 (.quiet 2 (.quiet 3 (.quiet 4 (.two 5 9 (.quiet 6 (.quiet 7 (.quiet 8 (.one 9 (.one 10 (.quiet 11 .done)))))) (.one 5 (.quiet 6 (.quiet 7 (.quiet 8 (.one 10 (.quiet 11 .done)))))))))))) (fun w' => Below wq.heap.size wq w') (by kernel_rfl) (by kernel_rfl) (by kernel_rfl) (by kernel_rfl) ((Below.refl _ _).drew) rfl ?_
      intro KP RP TP hKP hTP hTP'
      simp only [Sch.fill, nth]
      apply merge2 (Inv := fun g s w' => Below wq.heap.size wq w' ∧ wq.heap.size ≤ g ∧ Blk w' g 37 (rgv q s) ∧ LogF B w' s (q).log) (K := KP)
      · intro HK
        have hQ : Below wq.heap.size wq wq.drew := (Below.refl _ _).drew
        generalize wq.drew = wc at hQ ⊢
        go_wp2_with (first
          | (apply SeqT.skip; rfl; simp only [Act.put, List.setIfInBounds_toArray, List.set_cons_zero, List.set_cons_succ])
          | (apply SeqT.pure; rfl; (intro w9 hw9; have hw9 := hTP _ hw9; exact exec_load_blk 37 _ rfl _ rfl _ _ (B1.keep hw9) _ Try.underlying37 rfl rg_info); simp only [Act.put, List.setIfInBounds_toArray, List.set_cons_zero, List.set_cons_succ])
          | (apply SeqT.pure; rfl; (intro w9 hw9; have hw9 := hTP _ hw9; ((obtain ⟨q0, q1, q2, q3, q4, q5, q6, q7⟩ := FA _ (below_trans hB hw9 hz))); go_simp; with_reducible rfl); simp only [Act.put, List.setIfInBounds_toArray, List.set_cons_zero, List.set_cons_succ]))
        all_goals first | apply SeqT.two | apply SeqT.one
        all_goals first
          | (refine EffT.is (some 20) rfl ?_
             apply EffT.go
             · rfl
             intro KE hKE
             go_wp2_with fail
             refine (apply_far s x wc (Nat.le_trans hB0 (Nat.le_trans hz hQ.size)) HQ.out (HS.out.keep hQ).1 (HX.out.keep (below_trans hB hQ hz)) (by omega)).mono ?_
             rintro e wd ⟨sr, rfl, hR0, hb⟩
             have hQ' := below_trans hQ hb hQ.size
             refine hKE _ _ (hTP' _ hQ') ?_
             clear hKE KE hQ
             try replace hZ := hZ.keep hb
             clear hb
             try clear wc
             obtain ⟨wc, rfl⟩ : ∃ z, z = wd := ⟨_, rfl⟩
             have hR := hR0
             clear hR0
             have hQ := hQ'
             clear hQ'
             go_wp2_with (first
               | (apply SeqT.skip; rfl; simp only [Act.put, List.setIfInBounds_toArray, List.set_cons_zero, List.set_cons_succ])
               | (apply SeqT.pure; rfl; (intro w9 hw9; have hw9 := hTP _ hw9; exact exec_load_blk 37 _ rfl _ rfl _ _ (B1.keep hw9) _ Try.underlying37 rfl rg_info); simp only [Act.put, List.setIfInBounds_toArray, List.set_cons_zero, List.set_cons_succ])
               | (apply SeqT.pure; rfl; (intro w9 hw9; have hw9 := hTP _ hw9; ((obtain ⟨q0, q1, q2, q3, q4, q5, q6, q7⟩ := FA _ (below_trans hB hw9 hz))); go_simp; with_reducible rfl); simp only [Act.put, List.setIfInBounds_toArray, List.set_cons_zero, List.set_cons_succ])))
          | (refine EffT.is (some 6) rfl ?_
             apply EffT.go
             · rfl
             intro KE hKE
             go_wp2_with fail
             refine eff_abs hKE (fun W' => Below wc.heap.size wc W' ∧ Blk W' wc.heap.size 37 (rgv reg0 (none, 0, 0))) ⟨(Below.refl _ _).alloc (Nat.le_refl _) _, Blk.new wc 37 (rgv reg0 (none, 0, 0))⟩ (fun W' h => hTP' _ (below_trans hQ h.1 hQ.size)) ?_
             rintro wd ⟨hb, hZ0⟩
             have hQ' := below_trans hQ hb hQ.size
             have hgz := hQ.size
             generalize wc.heap.size = gz at hZ0 hgz ⊢
             clear hKE KE hQ
             try replace hR := hR.keep hb
             clear hb
             try clear wc
             obtain ⟨wc, rfl⟩ : ∃ z, z = wd := ⟨_, rfl⟩
             have hZ := hZ0
             clear hZ0
             have hQ := hQ'
             clear hQ'
             go_wp2_with (first
               | (apply SeqT.skip; rfl; simp only [Act.put, List.setIfInBounds_toArray, List.set_cons_zero, List.set_cons_succ])
               | (apply SeqT.pure; rfl; (intro w9 hw9; have hw9 := hTP _ hw9; exact exec_load_blk 37 _ rfl _ rfl _ _ (B1.keep hw9) _ Try.underlying37 rfl rg_info); simp only [Act.put, List.setIfInBounds_toArray, List.set_cons_zero, List.set_cons_succ])
               | (apply SeqT.pure; rfl; (intro w9 hw9; have hw9 := hTP _ hw9; ((obtain ⟨q0, q1, q2, q3, q4, q5, q6, q7⟩ := FA _ (below_trans hB hw9 hz))); go_simp; with_reducible rfl); simp only [Act.put, List.setIfInBounds_toArray, List.set_cons_zero, List.set_cons_succ])))
        all_goals first | apply SeqT.two | apply SeqT.one
        all_goals first
          | (refine EffT.is (some 20) rfl ?_
             apply EffT.go
             · rfl
             intro KE hKE
             go_wp2_with fail
             refine (apply_far s x wc (Nat.le_trans hB0 (Nat.le_trans hz hQ.size)) HQ.out (HS.out.keep hQ).1 (HX.out.keep (below_trans hB hQ hz)) (by omega)).mono ?_
             rintro e wd ⟨sr, rfl, hR0, hb⟩
             have hQ' := below_trans hQ hb hQ.size
             refine hKE _ _ (hTP' _ hQ') ?_
             clear hKE KE hQ
             try replace hZ := hZ.keep hb
             clear hb
             try clear wc
             obtain ⟨wc, rfl⟩ : ∃ z, z = wd := ⟨_, rfl⟩
             have hR := hR0
             clear hR0
             have hQ := hQ'
             clear hQ'
             go_wp2_with (first
               | (apply SeqT.skip; rfl; simp only [Act.put, List.setIfInBounds_toArray, List.set_cons_zero, List.set_cons_succ])
               | (apply SeqT.pure; rfl; (intro w9 hw9; have hw9 := hTP _ hw9; exact exec_load_blk 37 _ rfl _ rfl _ _ (B1.keep hw9) _ Try.underlying37 rfl rg_info); simp only [Act.put, List.setIfInBounds_toArray, List.set_cons_zero, List.set_cons_succ])
               | (apply SeqT.pure; rfl; (intro w9 hw9; have hw9 := hTP _ hw9; ((obtain ⟨q0, q1, q2, q3, q4, q5, q6, q7⟩ := FA _ (below_trans hB hw9 hz))); go_simp; with_reducible rfl); simp only [Act.put, List.setIfInBounds_toArray, List.set_cons_zero, List.set_cons_succ])))
          | (refine EffT.is (some 6) rfl ?_
             apply EffT.go
             · rfl
             intro KE hKE
             go_wp2_with fail
             refine eff_abs hKE (fun W' => Below wc.heap.size wc W' ∧ Blk W' wc.heap.size 37 (rgv reg0 (none, 0, 0))) ⟨(Below.refl _ _).alloc (Nat.le_refl _) _, Blk.new wc 37 (rgv reg0 (none, 0, 0))⟩ (fun W' h => hTP' _ (below_trans hQ h.1 hQ.size)) ?_
             rintro wd ⟨hb, hZ0⟩
             have hQ' := below_trans hQ hb hQ.size
             have hgz := hQ.size
             generalize wc.heap.size = gz at hZ0 hgz ⊢
             clear hKE KE hQ
             try replace hR := hR.keep hb
             clear hb
             try clear wc
             obtain ⟨wc, rfl⟩ : ∃ z, z = wd := ⟨_, rfl⟩
             have hZ := hZ0
             clear hZ0
             have hQ := hQ'
             clear hQ'
             go_wp2_with (first
               | (apply SeqT.skip; rfl; simp only [Act.put, List.setIfInBounds_toArray, List.set_cons_zero, List.set_cons_succ])
               | (apply SeqT.pure; rfl; (intro w9 hw9; have hw9 := hTP _ hw9; exact exec_load_blk 37 _ rfl _ rfl _ _ (B1.keep hw9) _ Try.underlying37 rfl rg_info); simp only [Act.put, List.setIfInBounds_toArray, List.set_cons_zero, List.set_cons_succ])
               | (apply SeqT.pure; rfl; (intro w9 hw9; have hw9 := hTP _ hw9; ((obtain ⟨q0, q1, q2, q3, q4, q5, q6, q7⟩ := FA _ (below_trans hB hw9 hz))); go_simp; with_reducible rfl); simp only [Act.put, List.setIfInBounds_toArray, List.set_cons_zero, List.set_cons_succ])))
        all_goals first | apply SeqT.two | apply SeqT.one
        all_goals
          refine EffT.is none rfl ?_
          apply EffT.go
          · rfl
          intro KE hKE
          refine wp_store_own 37 _ _ rfl _ (rgv q sr) rfl rfl _ _ hZ rg_info rfl (rgv_one _ _) ?_
          intro wd B5 g5
          have hQ' := hQ.trans (below_grown g5 hgz hQ.size)
          have hR5 := hR.stored hZ (by simp [rgv]) g5
          refine hKE _ _ (hTP' _ hQ') ?_
          clear hKE KE
          go_wp2_with (first
            | (apply SeqT.skip; rfl; simp only [Act.put, List.setIfInBounds_toArray, List.set_cons_zero, List.set_cons_succ])
            | (apply SeqT.pure; rfl; (intro w9 hw9; have hw9 := hTP _ hw9; exact exec_load_blk 37 _ rfl _ rfl _ _ (B1.keep hw9) _ Try.underlying37 rfl rg_info); simp only [Act.put, List.setIfInBounds_toArray, List.set_cons_zero, List.set_cons_succ])
            | (apply SeqT.pure; rfl; (intro w9 hw9; have hw9 := hTP _ hw9; ((obtain ⟨q0, q1, q2, q3, q4, q5, q6, q7⟩ := FA _ (below_trans hB hw9 hz))); go_simp; with_reducible rfl); simp only [Act.put, List.setIfInBounds_toArray, List.set_cons_zero, List.set_cons_succ]))
          apply SeqT.done
          exact HK gz sr wd ⟨hQ', hgz, B5, hR5⟩
      intro g s2 w3 ⟨hb3, hge, B3, R3⟩
      refine hKP _ _ (hTP' _ hb3) ?_
      clear hKP hTP hTP'
      have hB3 := below_trans hB hb3 hz
      have C0 := B0.keep hb3
      have C1 := B1.keep hb3
      have HS3 := Lib.hid (HS.out.keep hb3)
      have HE2 := Lib.hid (regR_get HQ.out)
      have R3' := Lib.hid R3
      have l1 := C1.lt
      have hz3 := hB3.size
      clear HQ R3 B0 B1 HS hB hb3
      try clear wq
      cases b with
      | true =>
        go_wp2_with ((with_reducible refine at_list ?_); first | refine wpList_load_blk rfl 37 _ rfl _ rfl _ _ _ (B3) Try.underlying37 rfl rg_info ?_ | (refine wpList_store_own rfl 37 _ _ rfl _ (rgv q s2) rfl rfl _ _ (C1) rg_info rfl (rgv_one _ _) ?_; intro w4 D1 g4))
        have hB4 := hB3.trans (below_grown g4 (by omega) hz3)
        go_roundg (l.length - (j + 1))
        case measure => have hkk := AA.out; omega
        case rel =>
          refine ⟨j + 1, s2, rfl, by omega, by go_num, hB4, C0.grown g4 (fun e => by have := Option.some.inj e; omega), ?_, ?_⟩
          · rw [HN.out, HE2.out]; exact D1
          · rw [HN.out, HE2.out]; exact R3'.out.stored C1 (by simp [rgv]) g4
      | false =>
        go_wp2_with fail
        go_roundg (l.length - (j + 1))
        case measure => have hkk := AA.out; omega
        case rel =>
          refine ⟨j + 1, s, rfl, by omega, by go_num, hB3, C0, ?_, ?_⟩
          · rw [HN.out, HE2.out]; exact C1
          · rw [HN.out, HE2.out]; exact HS3.out
    · obtain rfl : j = l.length := by omega
      have htk : (l.map RecV.s).take l.length = l.map RecV.s := List.take_of_length_le (by rw [List.length_map]; omega)
      rw [htk] at B1 hS
      have l1 := B1.lt
      have hz := hB.size
      clear htk
      go_wp2_with ((with_reducible refine at_list ?_); first | refine wpList_load_blk rfl 37 _ rfl _ rfl _ _ _ (B1) Try.underlying37 rfl rg_info ?_ | (refine wpList_store_own rfl 37 _ _ rfl _ (rgv (appliedS r0 (l.map RecV.s)) s) rfl rfl _ _ (B0) rg_info rfl (rgv_one _ _) ?_; intro w4 D0 g4))
      have hB4 := hB.trans (below_grown g4 (by omega) hz)
      apply ret_of
      · exact results_blk rfl _ _ _ _ _ _ rfl D0 Try.underlying37 rfl rg_info
      · exact ⟨rfl, s, rfl, hS.stored B0 (by simp [rgv]) g4, hB4⟩
end Go.Proofs.Ytdphfhenjndkkaa

set_option linter.unusedSimpArgs false
set_option linter.unusedVariables false
set_option maxRecDepth 100000
namespace Go.Sq
open Go Go.ChangeShapes Go.WideShapes Go.RowKit Go.Deep
section
variable {H : Type} {enc : TypeId × Value → H} {P : Program} {w : World} {base : Nat} {spare : Nat → Bool} {held : Bool}

theorem single_at {cs : List Value} {j : Nat} (h : j < cs.length) : (cs.drop j).take 1 = [cs[j]] := by
  rw [List.drop_eq_getElem_cons h]; rfl

/-- The cells of a struct, field by field. -/
theorem cells_fields {t : TypeId} {fs : Array Field} {fuel : Nat} {l : List Value} {x : DataW H × List MemPlace} (hs : P.underlying t = some (.struct fs)) (hone : oneCellFields P fs = true)
    (hC : P.cellsOf t = fs.size) (h : DataW.trod enc P w base spare held fuel t l = some x) :
    l.length = fs.size ∧ ∃ n : Nat, ∀ (j : Nat) (f : Field), fs[j]? = some f → ∃ (c : Value) (y : DataW H × List MemPlace), l[j]? = some c ∧ DataW.trod enc P w base spare held n f.type [c] = some y := by
  obtain ⟨xs, n, _, hx, hl, hlen, hg⟩ := DataW.trod_struct hs h
  rw [hC] at hl
  refine ⟨hl, n, fun j f hj => ?_⟩
  obtain ⟨ho, hk⟩ := hone_of hone j f hj
  have hjl : j < fs.size := (Array.getElem?_eq_some_iff.1 hj).1
  have h1 := hg j f hj
  rw [ho, hk] at h1
  rw [single_at (by omega)] at h1
  have hxj : j < xs.length := by omega
  exact ⟨_, xs[j], List.getElem?_eq_getElem (by omega), by rw [h1]; exact List.getElem?_eq_getElem hxj⟩

/-- An array by value: its cells, element by element. -/
theorem open_array {r : Reach} {b0 : Nat} {t e : TypeId} {n : Nat} {v : Value} {d : DataW H} {p : List MemPlace} (ht : P.underlying t = some (.array n e)) (hv : Value.okWide P w r b0 t v)
    (h : DataW.Trod enc P w base spare held t v d p) :
    ∃ (l : List Value) (m : Nat), v = .agg l.toArray ∧ l.length = P.cellsOf t ∧ ∀ i, i < n → ∃ y, DataW.trod enc P w base spare held m e ((l.drop (i * P.cellsOf e)).take (P.cellsOf e)) = some y := by
  simp only [Value.okWide, ht] at hv
  obtain ⟨⟨l⟩, rfl, hsz, _⟩ := hv
  obtain ⟨fuel, hf⟩ := h
  obtain ⟨xs, m, _, _, hl, hlen, hg⟩ := Go.DataW.trod_array ht hf
  refine ⟨l, m, rfl, hsz, fun i hi => ?_⟩
  have h1 := hg i hi
  have hxi : i < xs.length := by omega
  simp only [Value.cells] at h1
  exact ⟨xs[i], by rw [h1]; exact List.getElem?_eq_getElem hxi⟩

theorem add_none (b off n : Nat) : (⟨b, off, none⟩ : Addr).add n = ⟨b, off + n, none⟩ := by
  unfold Addr.add
  by_cases h : n = 0 <;> simp [h]
theorem add_block (a : Addr) (n : Nat) : (a.add n).block = a.block := by
  unfold Addr.add
  by_cases h : n = 0 <;> simp [h]

/-- A slice of structs: what each cell of its elements holds. -/
theorem open_rows {r : Reach} {b0 : Nat} {t e : TypeId} {fs : Array Field} {v : Value} {d : DataW H} {p : List MemPlace} (ht : P.underlying t = some (.slice e)) (hs : P.underlying e = some (.struct fs))
    (hone : oneCellFields P fs = true) (hC : P.cellsOf e = fs.size) (hpos : 0 < fs.size) (hv : Value.okWide P w r b0 t v) (h : DataW.Trod enc P w base spare held t v d p) :
    ∃ (a : Option Addr) (len cap : Nat), v = .slice a len cap ∧ len ≤ cap ∧ cap ≤ maxLen ∧ ∀ i, i < len → ∃ b off, a = some ⟨b, off, none⟩ ∧ b < w.heap.size ∧
      ∃ n : Nat, ∀ (j : Nat) (f : Field), fs[j]? = some f → ∃ (c : Value) (y : DataW H × List MemPlace), w.cell? ⟨b, off + i * fs.size + j, none⟩ = some c ∧ DataW.trod enc P w base spare held n f.type [c] = some y := by
  obtain ⟨a0, len, cap, rfl⟩ := okWide_slice ht hv
  obtain ⟨fuel, hf⟩ := h
  rcases open_slice ht hf with ⟨hcs, _⟩ | ⟨a, l, c, m, n, D, Pl, hcs, _, hl, hm, hmm, _, hi⟩
  · simp [Value.cells] at hcs
    obtain ⟨rfl, rfl, rfl⟩ := hcs
    exact ⟨none, 0, 0, rfl, Nat.le_refl _, by simp [maxLen], fun i hi => by omega⟩
  · simp [Value.cells] at hcs
    obtain ⟨rfl, rfl, rfl⟩ := hcs
    refine ⟨some a, len, cap, rfl, hl, hm, fun i hil => ?_⟩
    have hsp : a.spot = none := by
      obtain ⟨cs', hc, _⟩ := hi 0 (by rw [hmm]; split <;> omega)
      rw [hC] at hc
      obtain ⟨_, hcl, hat⟩ := World.cells?_some hc
      have h0 := hat 0 hpos
      rw [List.getElem?_eq_getElem (show 0 < cs'.length by omega)] at h0
      simpa [Addr.add] using World.cell?_spot h0
    have him : i < m := by rw [hmm]; split <;> omega
    obtain ⟨cs', hc, ht'⟩ := hi i him
    rw [hC] at hc
    obtain ⟨_, n', hg⟩ := cells_fields hs hone hC ht'
    obtain ⟨_, hcl, hat⟩ := World.cells?_some hc
    have h0 := hat 0 hpos
    rw [List.getElem?_eq_getElem (show 0 < cs'.length by omega)] at h0
    have hbl := World.block_lt_of_cell? _ _ h0
    rw [add_block, add_block] at hbl
    obtain ⟨b, off, spot⟩ := a
    obtain rfl : spot = none := hsp
    refine ⟨b, off, rfl, hbl, n', fun j f hj => ?_⟩
    have hjl : j < fs.size := (Array.getElem?_eq_some_iff.1 hj).1
    obtain ⟨c, y, h1, h2⟩ := hg j f hj
    refine ⟨c, y, ?_, h2⟩
    have h3 := hat j hjl
    rw [h1, add_none, add_none] at h3
    exact h3

/-- The value is an aggregate of as many values as there are fields; each reads by its field's type. -/
theorem open_fields {r : Reach} {b0 : Nat} {t : TypeId} {fs : Array Field} {v : Value} {d : DataW H} {p : List MemPlace} (hs : P.underlying t = some (.struct fs)) (hone : oneCellFields P fs = true)
    (hC : P.cellsOf t = fs.size) (hv : Value.okWide P w r b0 t v) (h : DataW.Trod enc P w base spare held t v d p) :
    ∃ (cs : List Value) (n : Nat), v = .agg cs.toArray ∧ cs.length = fs.size ∧
      ∀ (j : Nat) (f : Field), fs[j]? = some f → ∃ (c : Value) (y : DataW H × List MemPlace), cs[j]? = some c ∧ DataW.trod enc P w base spare held n f.type [c] = some y := by
  obtain ⟨⟨l⟩, rfl, hsz⟩ := okWide_struct hs hv
  obtain ⟨fuel, hf⟩ := h
  obtain ⟨xs, n, _, hx, _, hlen, hg⟩ := DataW.trod_struct hs hf
  have hl : l.length = fs.size := by rw [← hC]; exact hsz
  refine ⟨l, n, rfl, hl, fun j f hj => ?_⟩
  obtain ⟨ho, hk⟩ := hone_of hone j f hj
  have hjl : j < fs.size := (Array.getElem?_eq_some_iff.1 hj).1
  have h1 := hg j f hj
  rw [ho, hk] at h1
  simp only [Value.cells] at h1
  rw [single_at (by omega)] at h1
  have hxj : j < xs.length := by omega
  exact ⟨_, xs[j], List.getElem?_eq_getElem (by omega), by rw [h1]; exact List.getElem?_eq_getElem hxj⟩
/-- An array of numbers by value. -/
theorem open_nums {r : Reach} {b0 : Nat} {t e : TypeId} {n : Nat} {k : IntKind} {v : Value} {d : DataW H} {p : List MemPlace} (ht : P.underlying t = some (.array n e)) (he : P.underlying e = some (.int k))
    (hC : P.cellsOf e = 1) (hCt : P.cellsOf t = n) (hv : Value.okWide P w r b0 t v) (h : DataW.Trod enc P w base spare held t v d p) :
    ∃ zs : List Int, zs.length = n ∧ v = .agg (zs.map (Value.int k)).toArray ∧ ∀ z ∈ zs, (Lit.int k z).wf = true := by
  obtain ⟨l, m, rfl, hl, hf⟩ := open_array ht hv h
  rw [hCt] at hl
  rw [hC] at hf
  have key : ∀ (l : List Value), (∀ i, (hi : i < l.length) → ∃ z, l[i] = .int k z ∧ (Lit.int k z).wf = true) → ∃ zs : List Int, l = zs.map (Value.int k) ∧ ∀ z ∈ zs, (Lit.int k z).wf = true := by
    intro l
    induction l with
    | nil => intro _; exact ⟨[], rfl, by simp⟩
    | cons x l ih =>
      intro hh
      obtain ⟨z, hz, hw⟩ := hh 0 (by simp)
      obtain ⟨zs, hzs, hws⟩ := ih (fun i hi => by have := hh (i + 1) (by simp; omega); simpa using this)
      refine ⟨z :: zs, by simp at hz; simp [hz, hzs], ?_⟩
      intro y hy
      rcases List.mem_cons.1 hy with rfl | hy
      · exact hw
      · exact hws y hy
  obtain ⟨zs, hzs, hws⟩ := key l (fun i hi => by
    obtain ⟨y, hy⟩ := hf i (by omega)
    rw [Nat.mul_one, single_at hi] at hy
    obtain ⟨z, hcz, _, hw⟩ := DataW.trod_int he hy
    exact ⟨z, by simpa using hcz, hw⟩)
  exact ⟨zs, by rw [hzs] at hl; simpa using hl, by rw [hzs], hws⟩
end
theorem wf_u8 {a : Int} (h : (Lit.int .u8 a).wf = true) : 0 ≤ a ∧ a ≤ 255 := by
  simp only [Lit.wf, Bool.and_eq_true, decide_eq_true_eq] at h
  exact h
theorem wf_u16 {a : Int} (h : (Lit.int .u16 a).wf = true) : 0 ≤ a ∧ a ≤ 65535 := by
  simp only [Lit.wf, Bool.and_eq_true, decide_eq_true_eq] at h
  exact h
theorem wf_i64 {a : Int} (h : (Lit.int .i64 a).wf = true) : -9223372036854775808 ≤ a ∧ a ≤ 9223372036854775807 := by
  simp only [Lit.wf, Bool.and_eq_true, decide_eq_true_eq] at h
  exact h
theorem i64_wf {a : Int} (h : -9223372036854775808 ≤ a) (h2 : a ≤ 9223372036854775807) : (Lit.int .i64 a).wf = true := by
  simp only [Lit.wf, Bool.and_eq_true, decide_eq_true_eq]
  exact ⟨h, h2⟩
theorem len1 {α : Type} {l : List α} (h : l.length = 1) : ∃ a0, l = [a0] := by
  match l, h with
  | [a0], _ => exact ⟨a0, rfl⟩
theorem len2 {α : Type} {l : List α} (h : l.length = 2) : ∃ a0 a1, l = [a0, a1] := by
  match l, h with
  | [a0, a1], _ => exact ⟨a0, a1, rfl⟩
theorem len3 {α : Type} {l : List α} (h : l.length = 3) : ∃ a0 a1 a2, l = [a0, a1, a2] := by
  match l, h with
  | [a0, a1, a2], _ => exact ⟨a0, a1, a2, rfl⟩
theorem len4 {α : Type} {l : List α} (h : l.length = 4) : ∃ a0 a1 a2 a3, l = [a0, a1, a2, a3] := by
  match l, h with
  | [a0, a1, a2, a3], _ => exact ⟨a0, a1, a2, a3, rfl⟩
theorem len5 {α : Type} {l : List α} (h : l.length = 5) : ∃ a0 a1 a2 a3 a4, l = [a0, a1, a2, a3, a4] := by
  match l, h with
  | [a0, a1, a2, a3, a4], _ => exact ⟨a0, a1, a2, a3, a4, rfl⟩
theorem len6 {α : Type} {l : List α} (h : l.length = 6) : ∃ a0 a1 a2 a3 a4 a5, l = [a0, a1, a2, a3, a4, a5] := by
  match l, h with
  | [a0, a1, a2, a3, a4, a5], _ => exact ⟨a0, a1, a2, a3, a4, a5, rfl⟩
theorem len7 {α : Type} {l : List α} (h : l.length = 7) : ∃ a0 a1 a2 a3 a4 a5 a6, l = [a0, a1, a2, a3, a4, a5, a6] := by
  match l, h with
  | [a0, a1, a2, a3, a4, a5, a6], _ => exact ⟨a0, a1, a2, a3, a4, a5, a6, rfl⟩
theorem len8 {α : Type} {l : List α} (h : l.length = 8) : ∃ a0 a1 a2 a3 a4 a5 a6 a7, l = [a0, a1, a2, a3, a4, a5, a6, a7] := by
  match l, h with
  | [a0, a1, a2, a3, a4, a5, a6, a7], _ => exact ⟨a0, a1, a2, a3, a4, a5, a6, a7, rfl⟩
end Go.Sq

set_option linter.unusedSimpArgs false
set_option linter.unusedVariables false
set_option maxRecDepth 100000
namespace Go.Sq
open Go Go.ChangeShapes Go.WideShapes Go.RowKit Go.Deep
theorem list_of {α : Type} {p : Nat → α → Prop} : ∀ (n : Nat), (∀ i, i < n → ∃ x, p i x) → ∃ l : List α, l.length = n ∧ ∀ i x, l[i]? = some x → p i x
  | 0, _ => ⟨[], rfl, fun i x h => by simp at h⟩
  | n + 1, h => by
    obtain ⟨l, hl, hp⟩ := list_of n (fun i hi => h i (by omega))
    obtain ⟨x, hx⟩ := h n (by omega)
    refine ⟨l ++ [x], by simp [hl], fun i y hy => ?_⟩
    rcases Nat.lt_or_ge i n with hi | hi
    · rw [List.getElem?_append_left (by omega)] at hy
      exact hp i y hy
    · have hlt := (List.getElem?_eq_some_iff.1 hy).1
      have : i = n := by simp at hlt; omega
      subst this
      rw [List.getElem?_append_right (by omega), hl] at hy
      simp at hy
      subst hy
      exact hx
section
variable {H : Type} {enc : TypeId × Value → H} {P : Program} {w : World} {base : Nat} {spare : Nat → Bool} {held : Bool}

theorem open_rows_any {r : Reach} {b0 : Nat} {t e : TypeId} {C : Nat} {v : Value} {d : DataW H} {p : List MemPlace} (ht : P.underlying t = some (.slice e))
    (hC : P.cellsOf e = C) (hpos : 0 < C) (hv : Value.okWide P w r b0 t v) (h : DataW.Trod enc P w base spare held t v d p) :
    ∃ (a : Option Addr) (len cap : Nat), v = .slice a len cap ∧ len ≤ cap ∧ cap ≤ maxLen ∧ (0 < len → ∃ b off, a = some ⟨b, off, none⟩ ∧ b < w.heap.size ∧ ∀ i, i < len →
      ∃ (cs : List Value) (n : Nat) (y : DataW H × List MemPlace), cs.length = C ∧ (∀ k, k < C → w.cell? ⟨b, off + i * C + k, none⟩ = cs[k]?) ∧ DataW.trod enc P w base spare held n e cs = some y) := by
  obtain ⟨a0, len, cap, rfl⟩ := okWide_slice ht hv
  obtain ⟨fuel, hf⟩ := h
  rcases open_slice ht hf with ⟨hcs, _⟩ | ⟨a, l, c, m, n, D, Pl, hcs, _, hl, hm, hmm, _, hi⟩
  · simp [Value.cells] at hcs
    obtain ⟨rfl, rfl, rfl⟩ := hcs
    exact ⟨none, 0, 0, rfl, Nat.le_refl _, by simp [maxLen], fun h => absurd h (by omega)⟩
  · simp [Value.cells] at hcs
    obtain ⟨rfl, rfl, rfl⟩ := hcs
    refine ⟨some a, len, cap, rfl, hl, hm, fun hlen => ?_⟩
    obtain ⟨b, off, rfl, hbl⟩ : ∃ b off, a = ⟨b, off, none⟩ ∧ b < w.heap.size := by
      obtain ⟨cs', hc, _⟩ := hi 0 (by rw [hmm]; split <;> omega)
      rw [hC] at hc
      obtain ⟨_, hcl, hat⟩ := World.cells?_some hc
      have h0 := hat 0 hpos
      rw [List.getElem?_eq_getElem (show 0 < cs'.length by omega)] at h0
      have hsp : a.spot = none := by simpa [Addr.add] using World.cell?_spot h0
      have hbl := World.block_lt_of_cell? _ _ h0
      rw [add_block, add_block] at hbl
      obtain ⟨b, off, spot⟩ := a
      obtain rfl : spot = none := hsp
      exact ⟨b, off, rfl, hbl⟩
    refine ⟨b, off, rfl, hbl, fun i hil => ?_⟩
    obtain ⟨cs', hc, ht'⟩ := hi i (by rw [hmm]; split <;> omega)
    rw [hC] at hc
    obtain ⟨_, hcl, hat⟩ := World.cells?_some hc
    refine ⟨cs', n, _, hcl, fun k hk => ?_, ht'⟩
    have h3 := hat k hk
    rw [add_none, add_none] at h3
    exact h3

/-- A struct of five numbers. -/
theorem five_of {n : Nat} {t : TypeId} {fs : Array Field} {l : List Value} {x : DataW H × List MemPlace} {ti : TypeId} (hs : P.underlying t = some (.struct fs)) (hone : oneCellFields P fs = true)
    (hC : P.cellsOf t = fs.size) (h5 : fs.size = 5) (hty : ∀ (j : Nat) (f : Field), fs[j]? = some f → P.underlying f.type = some (.int .i64)) (h : DataW.trod enc P w base spare held n t l = some x) :
    ∃ a b c d e : Int, l = [.int .i64 a, .int .i64 b, .int .i64 c, .int .i64 d, .int .i64 e] ∧ (Lit.int .i64 a).wf = true ∧ (Lit.int .i64 b).wf = true ∧ (Lit.int .i64 c).wf = true ∧ (Lit.int .i64 d).wf = true ∧ (Lit.int .i64 e).wf = true := by
  obtain ⟨hl, m, hf⟩ := cells_fields hs hone hC h
  rw [h5] at hl
  obtain ⟨c0, c1, c2, c3, c4, rfl⟩ := len5 hl
  have key : ∀ j c, j < 5 → [c0, c1, c2, c3, c4][j]? = some c → ∃ z, c = .int .i64 z ∧ (Lit.int .i64 z).wf = true := by
    intro j c hj hc
    have hj' : j < fs.size := by omega
    obtain ⟨c', y, h1, h2⟩ := hf j _ (Array.getElem?_eq_getElem hj')
    rw [hc] at h1
    cases h1
    obtain ⟨z, hz, _, hw⟩ := DataW.trod_int (hty j _ (Array.getElem?_eq_getElem hj')) h2
    exact ⟨z, by simpa using hz, hw⟩
  obtain ⟨a, rfl, wa⟩ := key 0 c0 (by omega) rfl
  obtain ⟨b, rfl, wb⟩ := key 1 c1 (by omega) rfl
  obtain ⟨c, rfl, wc⟩ := key 2 c2 (by omega) rfl
  obtain ⟨d, rfl, wd⟩ := key 3 c3 (by omega) rfl
  obtain ⟨e, rfl, we⟩ := key 4 c4 (by omega) rfl
  exact ⟨a, b, c, d, e, rfl, wa, wb, wc, wd, we⟩
end
end Go.Sq

namespace Go.Proofs.Ytdphfhenjndkkaa
open Go Go.ChangeShapes Go.WideShapes Go.RowKit Go.Deep Go.Sq
section
variable {H : Type} {enc : TypeId × Value → H} {w : World} {base : Nat} {spare : Nat → Bool} {held : Bool}

def wfEnt (e : Ent) : Prop := (Lit.int .i64 e.1).wf = true ∧ (Lit.int .i64 e.2.1).wf = true ∧ (Lit.int .i64 e.2.2.1).wf = true ∧ (Lit.int .i64 e.2.2.2.1).wf = true ∧ (Lit.int .i64 e.2.2.2.2.1).wf = true ∧ (Lit.int .i64 e.2.2.2.2.2).wf = true

theorem open_ent {n : Nat} {cs : List Value} {y : DataW H × List MemPlace} (h : DataW.trod enc Try.prog w base spare held n 64 cs = some y) : ∃ e : Ent, cs = vals e ∧ wfEnt e := by
  have hC : Try.prog.cellsOf 64 = 6 := by kernel_rfl
  have hCo : Try.prog.cellsOf 39 = 5 := by kernel_rfl
  have hCi : Try.prog.cellsOf 3 = 1 := by kernel_rfl
  obtain ⟨xs, m, _, _, hl, hlen, hg⟩ := DataW.trod_struct Try.underlying64 h
  rw [hC] at hl
  obtain ⟨c0, c1, c2, c3, c4, c5, rfl⟩ := len6 hl
  have h0 := hg 0 _ rfl
  have h1 := hg 1 _ rfl
  simp only [List.getElem_toArray, List.getElem_cons_zero, List.getElem_cons_succ] at h0 h1
  rw [hCi] at h0
  rw [hCo] at h1
  simp only [List.drop_zero, List.take_succ_cons, List.take_zero, List.drop_succ_cons] at h0 h1
  have hx : xs.length = 2 := hlen
  obtain ⟨x0, x1, rfl⟩ := len2 hx
  obtain ⟨z, hz, _, hw⟩ := DataW.trod_int Try.underlying3 h0
  obtain ⟨a, b, c, d, e, h5, wa, wb, wc, wd, we⟩ := five_of (ti := 3) Try.underlying39 (by kernel_rfl) (by kernel_rfl) rfl (by
    intro j f hf
    have hj : j < 5 := (Array.getElem?_eq_some_iff.1 hf).1
    obtain rfl | rfl | rfl | rfl | rfl : j = 0 ∨ j = 1 ∨ j = 2 ∨ j = 3 ∨ j = 4 := by omega
    all_goals
      cases hf
      exact Try.underlying3) h1
  cases hz
  cases h5
  exact ⟨(z, a, b, c, d, e), rfl, hw, wa, wb, wc, wd, we⟩

theorem open_ents {r : Reach} {b0 : Nat} {v : Value} {d : DataW H} {p : List MemPlace} (hv : Value.okWide Try.prog w r b0 35 v) (h : DataW.Trod enc Try.prog w base spare held 35 v d p) :
    ∃ (A : Option Addr) (l : List Ent) (c : Nat), v = .slice A l.length c ∧ l.length ≤ c ∧ c ≤ 9223372036854775807 ∧ Ents w w.heap.size A l ∧ ∀ e ∈ l, wfEnt e := by
  obtain ⟨A, len, cap, rfl, h1, h2, h3⟩ := open_rows_any Try.underlying35 (C := 6) (by kernel_rfl) (by omega) hv h
  have h2' : cap ≤ 9223372036854775807 := by simp only [maxLen] at h2; omega
  rcases Nat.eq_zero_or_pos len with h0 | h0
  · subst h0
    exact ⟨A, [], cap, rfl, h1, h2', Ents.nil, by simp⟩
  · obtain ⟨b, off, rfl, hb, hrow⟩ := h3 h0
    obtain ⟨l, hl, hp⟩ := list_of (p := fun i e => EntAt w b (off + i * 6) e ∧ wfEnt e) len (fun i hi => by
      obtain ⟨cs, n, y, hcl, hcell, ht⟩ := hrow i hi
      obtain ⟨e, rfl, hw⟩ := open_ent ht
      exact ⟨e, ⟨hcell 0 (by omega), hcell 1 (by omega), hcell 2 (by omega), hcell 3 (by omega), hcell 4 (by omega), hcell 5 (by omega)⟩, hw⟩)
    subst hl
    refine ⟨_, l, cap, rfl, h1, h2', fun _ => ⟨b, off, rfl, hb, fun i e he => (hp i e he).1⟩, fun e he => ?_⟩
    obtain ⟨i, hi⟩ := List.getElem?_of_mem he
    exact (hp i e hi).2
end
end Go.Proofs.Ytdphfhenjndkkaa

set_option linter.unusedSimpArgs false
set_option linter.unusedVariables false
set_option maxRecDepth 100000
namespace Go.Proofs.Ytdphfhenjndkkaa
open Go Go.ChangeShapes Go.WideShapes Go.RowKit Go.Sq Go.Wd Go.Deep

/-- These numbers stand at A, below block B. -/
def Nums (w : World) (B : Nat) (A : Option Addr) (k : IntKind) (l : List Int) : Prop :=
  0 < l.length → ∃ b off, A = some ⟨b, off, none⟩ ∧ b < B ∧ ∀ i x, l[i]? = some x → w.cell? ⟨b, off + i, none⟩ = some (.int k x)
theorem Nums.below {w w' : World} {B : Nat} {A : Option Addr} {k : IntKind} {l : List Int} (h : Nums w B A k l) (hb : Below B w w') : Nums w' B A k l := fun hl => by
  obtain ⟨b, off, ha, hB, hc⟩ := h hl
  exact ⟨b, off, ha, hB, fun i e he => (hb.cell (p := ⟨b, _, none⟩) hB).trans (hc i e he)⟩
theorem Nums.more {w : World} {B B' : Nat} {A : Option Addr} {k : IntKind} {l : List Int} (h : Nums w B A k l) (hB : B ≤ B') : Nums w B' A k l := fun hl => by
  obtain ⟨b, off, ha, hb, hc⟩ := h hl
  exact ⟨b, off, ha, by omega, hc⟩
/-- One of them. -/
theorem Nums.at_ {w : World} {B : Nat} {A : Option Addr} {k : IntKind} {l : List Int} (h : Nums w B A k l) {j : Nat} (hj : j < l.length) :
    ∃ b off x, A = some ⟨b, off, none⟩ ∧ Hid (l[j]? = some x) ∧ ∀ w', Below B w w' → w'.cell? ⟨b, off + j, none⟩ = some (.int k x) := by
  obtain ⟨b, off, ha, hB, hc⟩ := h (by omega)
  have he := List.getElem?_eq_getElem hj
  exact ⟨b, off, _, ha, Lib.hid he, fun w' hb => (hb.cell (p := ⟨b, _, none⟩) hB).trans (hc j _ he)⟩
section
variable {H : Type} {enc : TypeId × Value → H} {P : Program} {w : World} {base : Nat} {spare : Nat → Bool} {held : Bool}
theorem open_slice_nums {r : Reach} {b0 : Nat} {t e : TypeId} {k : IntKind} {v : Value} {d : DataW H} {p : List MemPlace} (ht : P.underlying t = some (.slice e)) (he : P.underlying e = some (.int k))
    (hC : P.cellsOf e = 1) (hv : Value.okWide P w r b0 t v) (h : DataW.Trod enc P w base spare held t v d p) :
    ∃ (A : Option Addr) (l : List Int) (c : Nat), v = .slice A l.length c ∧ l.length ≤ c ∧ c ≤ 9223372036854775807 ∧ Nums w w.heap.size A k l ∧ ∀ x ∈ l, (Lit.int k x).wf = true := by
  obtain ⟨A, len, cap, rfl, h1, h2, h3⟩ := open_rows_any ht (C := 1) hC (by omega) hv h
  have h2' : cap ≤ 9223372036854775807 := by simp only [maxLen] at h2; omega
  rcases Nat.eq_zero_or_pos len with h0 | h0
  · subst h0
    exact ⟨A, [], cap, rfl, h1, h2', fun h => absurd h (by simp), by simp⟩
  · obtain ⟨b, off, rfl, hb, hrow⟩ := h3 h0
    obtain ⟨l, hl, hp⟩ := list_of (p := fun i x => w.cell? ⟨b, off + i, none⟩ = some (.int k x) ∧ (Lit.int k x).wf = true) len (fun i hi => by
      obtain ⟨cs, n, y, hcl, hcell, ht⟩ := hrow i hi
      obtain ⟨z, hz, _, hw⟩ := DataW.trod_int he ht
      refine ⟨z, ?_, hw⟩
      have := hcell 0 (by omega)
      rw [hz] at this
      simpa using this)
    subst hl
    refine ⟨_, l, cap, rfl, h1, h2', fun _ => ⟨b, off, rfl, hb, fun i e he => (hp i e he).1⟩, fun e he => ?_⟩
    obtain ⟨i, hi⟩ := List.getElem?_of_mem he
    exact (hp i e hi).2
end
end Go.Proofs.Ytdphfhenjndkkaa

set_option linter.unusedSimpArgs false
set_option linter.unusedVariables false
set_option maxRecDepth 100000
namespace Go.Proofs.Ytdphfhenjndkkaa
open Go Go.RowKit Go.Sq Go.Wd Go.Arch Go.Im

/-- One piece of mail, said by the spec. -/
def pieceS (st : RegS × (Int → Option (Int × Int)) × Int) (m : MailS) (t : Option Int) : RegS × (Int → Option (Int × Int)) × Int :=
  let now := st.2.2 + t.getD 0
  let y : MailS := { m with stream := 1 }
  let a := takeS st.1 (mayL 0 (st.2.1 y.stream) y.epoch now) y
  (appliedS st.1 a.recs, bookG a.act st.2.1 y.stream y.epoch now, now)
def plS (L : List MailV) (ts : List Int) : Nat → RegS × (Int → Option (Int × Int)) × Int
  | 0 => (reg0, (fun _ => none), 0)
  | k + 1 => match L[k]? with
    | some x => pieceS (plS L ts k) x.m ts[k]?
    | none => plS L ts k
theorem plS_succ {L : List MailV} {ts : List Int} {k : Nat} {x : MailV} {r : RegS} {G : Int → Option (Int × Int)} {nv nv2 : Int} (hx : L[k]? = some x) (h : plS L ts k = (r, G, nv)) (hn : nv + (ts[k]?).getD 0 = nv2) :
    plS L ts (k + 1) = (appliedS r (takeS r (mayL 0 (G (st1 x).m.stream) (st1 x).m.epoch nv2) (st1 x).m).recs, bookG (takeS r (mayL 0 (G (st1 x).m.stream) (st1 x).m.epoch nv2) (st1 x).m).act G (st1 x).m.stream (st1 x).m.epoch nv2, nv2) := by
  show (match L[k]? with | some x => pieceS (plS L ts k) x.m ts[k]? | none => plS L ts k) = _
  rw [hx, h, ← hn]
  rfl

def PlayedP (l : List MailV) (ts : List Int) (w : World) (e : Ending) (w' : World) : Prop :=
  ∃ (q : RegS) (s : SlcE) (b m n : Nat) (nv : Int) (G : Int → Option (Int × Int)), e = .returned (.tuple #[.agg (rgv q s).toArray, .pointer (some ⟨b, 0, none⟩), .int .i64 nv]) ∧ plS l ts l.length = (q, G, nv) ∧
    (0 ≤ nv ∧ nv ≤ 255 * l.length) ∧ n ≤ l.length ∧ mayR q = true ∧ LogF w.heap.size w' s q.log ∧ Bk w' b m n 0 G ∧ Below w.heap.size w w' ∧ w.heap.size ≤ m

theorem results_blk_tmp2 {P : Program} {fn : Func} {p q q' : Tmp} {ty : TypeId} (h : fn.results = #[.cell p ty, .tmp q, .tmp q']) (tmps : Array Value) (w : World) (g : Nat) (t : TypeId) (cs : List Value) (d : TypeDesc)
    (hp : tmps.getD p undef = .pointer (some ⟨g, 0, none⟩)) (hg : Blk w g t cs) (hu : P.underlying ty = some d) (hd : (match d with | .struct _ | .array _ _ => true | _ => false) = true) (hi : (P.info? ty).map (·.size) = some cs.length)
    (v v' : Value) (hv : tmps.getD q undef = v) (hv' : tmps.getD q' undef = v') : (results fn tmps).run P w = .ok (.tuple #[.agg cs.toArray, v, v']) w := by
  have hp' : tmps[p]?.getD undef = .pointer (some ⟨g, 0, none⟩) := by simpa using hp
  have h1 : tmps[q]?.getD undef = v := by simpa using hv
  have h2 : tmps[q']?.getD undef = v' := by simpa using hv'
  simp [results, h, hp', h1, h2, asAddr, run_loadVar_row w g t ty cs.toArray (0, 0) d hg hu hd (by simpa using hi)]
/-- Between two pieces: the register, the book, the answer's block. -/
def PlI (w W : World) (gr : Nat) (r : RegS) (s : SlcE) (b m n : Nat) (G : Int → Option (Int × Int)) : Prop :=
  RfI w W gr r s b m n 0 G ∧ Blk W w.heap.size 37 (rgv reg0 (none, 0, 0)) ∧ w.heap.size < gr ∧ FarS w.heap.size s
theorem PlI.keep {w W W' : World} {gr : Nat} {r : RegS} {s : SlcE} {b m n : Nat} {G : Int → Option (Int × Int)} (h : PlI w W gr r s b m n G) (hb : Below W.heap.size W W') : PlI w W' gr r s b m n G :=
  ⟨h.1.keep hb, h.2.1.keep hb, h.2.2⟩
theorem PlI.take {w W W' : World} {gr : Nat} {r : RegS} {s : SlcE} {b m n n' : Nat} {G G' : Int → Option (Int × Int)} (h : PlI w W gr r s b m n G) (hB : Bk W' b m n' 0 G') (hK : Kept W W' (some m) none) : PlI w W' gr r s b m n' G' :=
  ⟨h.1.take hB hK, hK.blk h.2.1 (fun e => h.1.2.2.2.1.notBlk h.2.1 (Option.some.inj e)) (by simp), h.2.2⟩
theorem PlI.put {w W W' : World} {gr : Nat} {r q : RegS} {s s' : SlcE} {b m n : Nat} {G : Int → Option (Int × Int)} (h : PlI w W gr r s b m n G) (hq : LogF w.heap.size W s' q.log) (hB : Blk W' gr 37 (rgv q s')) (hg : W.grownBy W' (some gr)) : PlI w W' gr q s' b m n G :=
  ⟨h.1.put hq.1 hB hg, h.2.1.grown hg (fun e => by have := Option.some.inj e; have := h.2.2.1; omega), h.2.2.1, hq.2⟩
theorem PlI.last {w W W' : World} {gr : Nat} {r : RegS} {s : SlcE} {b m n : Nat} {G : Int → Option (Int × Int)} (h : PlI w W gr r s b m n G) (hg : W.grownBy W' (some w.heap.size)) : LogF w.heap.size W' s r.log ∧ Bk W' b m n 0 G ∧ Below w.heap.size w W' ∧ w.heap.size ≤ m :=
  ⟨⟨h.1.2.2.1.stored h.2.1 (by simp [rgv]) hg, h.2.2.2⟩, h.1.2.2.2.1.other h.2.1 ⟨_, rfl⟩ hg, h.1.1.trans (below_grown hg (Nat.le_refl _) h.1.1.size), h.1.2.2.2.2.1⟩

set_option maxHeartbeats 16000000 in
theorem played_any (l : List MailV) (A : Option Addr) (c : Nat) (ts : List Int) (At_ : Option Addr) (ct : Nat) (w : World) (hl : Mails w w.heap.size A l) (hf : Few l) (ht : Nums w w.heap.size At_ .u8 ts) (htn : ts.length ≤ 9223372036854775807) (ht8 : ∀ k ∈ ts, 0 ≤ k ∧ k ≤ 255) :
    Calls Try.prog 18 #[.slice A l.length c, .slice At_ ts.length ct] w (PlayedP l ts w) := by
  have HE := Lib.hid (And.intro hl (And.intro ht ht8))
  have HF := Lib.hid hf
  have hl60 := hf.1
  clear hl ht ht8 hf
  have hz := (Below.refl w.heap.size w).alloc (Nat.le_refl _) (.cells (rgv reg0 (none, 0, 0)).toArray 37)
  have bz := Blk.new w 37 (rgv reg0 (none, 0, 0))
  have HZ := Lib.hid (And.intro hz bz)
  clear hz bz
  go_enter Try.func18, Try.ntmps18
  go_wp2_with fail
  refine (lnew_any 0 (by decide) false _).mono ?_
  rintro e w2 ⟨b, m, rfl, hB2, hb2, hbb, hbm⟩
  have ha := (Below.refl w2.heap.size w2).alloc (Nat.le_refl _) (.cells (rgv reg0 (none, 0, 0)).toArray 37)
  have hw2 := below_trans HZ.out.1 hb2 HZ.out.1.size
  have hs : ∀ o, (w.alloc o).heap.size = w.heap.size + 1 := fun o => by simp
  have hR0 : PlI w (w2.alloc (.cells (rgv reg0 (none, 0, 0)).toArray 37)) w2.heap.size reg0 (none, 0, 0) b m 0 (fun _ => none) :=
    ⟨⟨below_trans hw2 ha hw2.size, Blk.new w2 _ _, LogAt.nil, hB2.below ha, by have h1 := hbm; rw [hs] at h1; omega, hw2.size⟩, (HZ.out.2.keep hb2).keep ha, by have h1 := hb2.size; rw [hs] at h1; omega, FarS.none⟩
  have HR0 := Lib.hid hR0
  clear hB2 hb2 hbb hbm hw2 ha hR0 HZ hs
  go_wp2_with fail
  refine abs_code (fun W => PlI w W w2.heap.size reg0 (none, 0, 0) b m 0 (fun _ => none)) HR0.out ?_
  clear HR0
  intro w3 h3
  generalize w2.heap.size = gr at h3 ⊢
  have H3 := Lib.hid h3
  clear h3
  go_loopg [9, 10] l.length (fun q nw i wr => ∃ (j n : Nat) (nv : Int) (r : RegS) (s : SlcE) (G : Int → Option (Int × Int)), q = l.length - j ∧ j ≤ l.length ∧ nw = .int .i64 nv ∧ i = .int .i64 j ∧ (0 ≤ nv ∧ nv ≤ 255 * j) ∧ n ≤ j ∧ plS l ts j = (r, G, nv) ∧ mayR r = true ∧ PlI w wr gr r s b m n G)
  case atStart => exact ⟨0, 0, 0, reg0, (none, 0, 0), fun _ => none, rfl, by omega, rfl, rfl, by omega, by omega, rfl, may_reg0, H3.out⟩
  case round =>
    clear H3
    obtain ⟨j, n, nv, r, s, G, hq, hj, rfl, rfl, ⟨v0, v1⟩, hnj, hpl, hmr, hI⟩ := hrel
    have AA : Aside (gk = l.length - j ∧ n ≤ j) := ⟨hq, hnj⟩
    clear hq hnj
    obtain ⟨wo, rfl⟩ : ∃ wo, wo = wr := ⟨_, rfl⟩
    have HI := Lib.hid (And.intro hI hmr)
    have HPL := Lib.hid hpl
    clear hI hmr hpl
    by_cases hlt : j < l.length
    · have j0 : (0 : Int) ≤ (j : Int) := by omega
      have j1 : (j : Int) < (l.length : Int) := by omega
      obtain ⟨b1, o1, x, rfl, hx, FA, HX⟩ := HE.out.1.range hlt
      have hx100 := Lib.hid (HF.out.2 x (List.mem_of_getElem? hx.out))
      have HFA := Lib.hid FA
      clear FA
      by_cases htk : j < ts.length
      case' pos =>
        have t1 : (j : Int) < (ts.length : Int) := by omega
        obtain ⟨b2, o2, k, rfl, hk, FT⟩ := HE.out.2.1.at_ htk
        have hkr := HE.out.2.2 k (List.mem_of_getElem? hk.out)
        have ck := FT _ HI.out.1.1.1
        have wk : IntKind.i64.wrap k = k := IntWalk.i64_in _ (by omega)
        have ws : IntKind.i64.wrap (nv + k) = nv + k := IntWalk.i64_in _ (by omega)
        have hv2 : ∃ nv2 : Int, nv + k = nv2 ∧ Hid (nv + (ts[j]?).getD 0 = nv2) ∧ 0 ≤ nv2 ∧ nv2 ≤ 255 * ((j : Int) + 1) := ⟨_, rfl, Lib.hid (by rw [hk.out]; rfl), by omega, by omega⟩
        clear FT hkr
      case' neg =>
        have t1 : ¬ (j : Int) < (ts.length : Int) := by omega
        have hv2 : ∃ nv2 : Int, nv = nv2 ∧ Hid (nv + (ts[j]?).getD 0 = nv2) ∧ 0 ≤ nv2 ∧ nv2 ≤ 255 * ((j : Int) + 1) := ⟨_, rfl, Lib.hid (by rw [List.getElem?_eq_none (by omega)]; simp), by omega, by omega⟩
      all_goals
        obtain ⟨nv2, hvv, HV2, u0, u1⟩ := hv2
        have HP2 := Lib.hid (plS_succ hx.out HPL.out HV2.out)
        have HV := Lib.hid hvv
        clear HV2 HPL
        try clear hvv
        go_wp2_with ((with_reducible refine at_list ?_); (with_reducible refine cut_at 34 rfl ?_))
        refine Cut.go ?_
        try rw [HV.out]
        clear HV t1
        try clear ck wk ws
        go_wp2_with ((with_reducible refine at_list ?_); first | (with_reducible refine cut_at 36 rfl ?_) | (refine wpList_load_mid rfl 43 _ rfl _ _ rfl _ _ (HFA.out _ HI.out.1.1.1) Try.underlying43 rfl mail_info ?_) | (refine wpList_store_own rfl 43 _ _ rfl _ (mailv x) rfl rfl _ _ (Blk.new wo 43 (mailv backV0)) mail_info rfl (mail_one _) ?_; intro w4 B4 g4))
        refine Cut.go ?_
        have hb4 := below_new g4
        have c3 : w4.cell? ⟨wo.heap.size, 3, none⟩ = some (.int .i64 x.m.stream) := B4.cell 3
        have z3 : w4.frozen? ⟨wo.heap.size, 3, none⟩ = false := B4.frozen 3
        have hbx : Below wo.heap.size wo (w4.setCell ⟨wo.heap.size, 3, none⟩ (.int .i64 1)) := hb4.trans (below_grown (only_setCell (World.grownBy.refl w4 (some wo.heap.size)) (p := ⟨wo.heap.size, 3, none⟩) (.inl rfl) _) (Nat.le_refl _) hb4.size)
        have hI5 := HI.out.1.keep hbx
        have HJ := Lib.hid (show PlI w (w4.setCell ⟨wo.heap.size, 3, none⟩ (.int .i64 1)) gr r s b m n G ∧ Blk (w4.setCell ⟨wo.heap.size, 3, none⟩ (.int .i64 1)) wo.heap.size 43 (mailv (st1 x)) ∧ LogAt (w4.setCell ⟨wo.heap.size, 3, none⟩ (.int .i64 1)) (w4.setCell ⟨wo.heap.size, 3, none⟩ (.int .i64 1)).heap.size (st1 x).es (st1 x).m.ents from
          ⟨hI5, by rw [← st1_set]; exact B4.set 3 _, (HX.out.below hI5.1.1).more hI5.1.1.size⟩)
        have HMR := Lib.hid HI.out.2
        clear hb4 hbx hI5 B4 g4 HI
        go_wp2_with ((with_reducible refine at_list ?_); (with_reducible refine cut_at 38 rfl ?_))
        refine Cut.go ?_
        clear c3 z3
        refine abs_list (fun W => PlI w W gr r s b m n G ∧ Blk W wo.heap.size 43 (mailv (st1 x)) ∧ LogAt W W.heap.size (st1 x).es (st1 x).m.ents) HJ.out ?_
        clear HJ
        intro w5 h5
        generalize wo.heap.size = gm at h5 ⊢
        have hx1 : (st1 x).m.ents.length ≤ 100 := hx100.out
        obtain ⟨xx, hxx⟩ : ∃ xx, st1 x = xx := ⟨_, rfl⟩
        rw [hxx] at h5 hx1 HP2
        clear hxx
        have H5 := Lib.hid (And.intro h5 hx1)
        clear h5 hx1
        go_wp2_with ((with_reducible refine at_list ?_); first | refine wpList_load_blk rfl 37 _ rfl _ rfl _ _ _ (H5.out.1.1.1.2.1) Try.underlying37 rfl rg_info ?_ | refine wpList_load_blk rfl 43 _ rfl _ rfl _ _ _ (H5.out.1.2.1) Try.underlying43 rfl mail_info ?_)
        refine (take_any r s b m n 0 G xx nv2 w5 H5.out.1.1.1.2.2.2.1 (by have := AA.out.2; unfold maxLen; omega) u0 H5.out.1.1.1.2.2.1 H5.out.1.2.2 (by have := H5.out.2; omega)).mono ?_
        rintro e w6 ⟨⟨A1, d1, A2, d2, xs, ys, rfl, hR, hM, hxs, hys, -, -⟩, hB6, hK6⟩
        have hen : ∀ y ∈ xs, y.ents.length ≤ 1000 := fun y hy => by
          have h1 := take_ents r _ xx.m y.s (by rw [← hxs]; exact List.mem_map_of_mem hy)
          have h2 := (may_com HMR.out).2.2
          have h3 := H5.out.2
          have h4 : y.s.ents = y.ents := rfl
          rw [h4] at h1
          omega
        have hfx : xs.length ≤ 2 := by
          have h1 := (take_few r (mayL 0 (G xx.m.stream) xx.m.epoch nv2) xx.m).1
          rw [← hxs, List.length_map] at h1
          exact h1
        have hI6 := H5.out.1.1.take hB6 hK6
        have hst := stays_applied (xs.map RecV.s) r HMR.out
        have hP := HP2.out
        rw [← hxs] at hP
        have H6 := Lib.hid (And.intro hI6 (And.intro hR (And.intro hen (And.intro hfx (And.intro hst hP)))))
        clear hI6 hR hM hen hfx hxs hys hB6 hK6 H5 hst hP HP2
        go_wp2_with ((with_reducible refine at_list ?_); first | refine wpList_load_blk rfl 37 _ rfl _ rfl _ _ _ (H6.out.1.1.2.1) Try.underlying37 rfl rg_info ?_)
        refine (applied_far w.heap.size r s xs A1 d1 w6 H6.out.1.1.1.size ⟨H6.out.1.1.2.2.1, H6.out.1.2.2.2⟩ H6.out.2.1 (by have := H6.out.2.2.2.1; omega) H6.out.2.2.1).mono ?_
        rintro e w7 ⟨s7, rfl, hL7, hb7⟩
        have HP7 := Lib.hid H6.out.2.2.2.2
        have H7 := Lib.hid (And.intro (H6.out.1.keep hb7) hL7)
        clear hL7 hb7 H6
        obtain ⟨q, hq⟩ : ∃ q, appliedS r (xs.map RecV.s) = q := ⟨_, rfl⟩
        rw [hq] at H7 HP7 ⊢
        clear hq
        go_wp2_with ((with_reducible refine at_list ?_); first | (refine wpList_store_own rfl 37 _ _ rfl _ (rgv q s7) rfl rfl _ _ (H7.out.1.1.2.1) rg_info rfl (rgv_one _ _) ?_; intro w8 B8 g8))
        go_roundg (l.length - (j + 1))
        case measure => have hkk := AA.out; omega
        case rel => exact ⟨j + 1, n + 1, nv2, q, s7, _, rfl, by omega, rfl, by go_num, by omega, by have hkk := AA.out; omega, HP7.out.2, HP7.out.1.1, H7.out.1.put H7.out.2 B8 g8⟩
    · obtain rfl : j = l.length := by omega
      have j1 : ¬ (l.length : Int) < (l.length : Int) := by omega
      go_wp2_with ((with_reducible refine at_list ?_); first | refine wpList_load_blk rfl 37 _ rfl _ rfl _ _ _ (HI.out.1.1.2.1) Try.underlying37 rfl rg_info ?_ | (refine wpList_store_own rfl 37 _ _ rfl _ (rgv r s) rfl rfl _ _ (HI.out.1.2.1) rg_info rfl (rgv_one _ _) ?_; intro w4 B4 g4))
      have hL := HI.out.1.last g4
      apply ret_of
      · exact results_blk_tmp2 rfl _ _ _ _ _ _ rfl B4 Try.underlying37 rfl rg_info _ _ rfl rfl
      exact ⟨rfl, r, s, b, m, n, nv, G, rfl, HPL.out, ⟨v0, v1⟩, AA.out.2, HI.out.2, hL⟩
end Go.Proofs.Ytdphfhenjndkkaa

set_option linter.unusedSimpArgs false
set_option linter.unusedVariables false
set_option maxRecDepth 100000
namespace Go.Proofs.Ytdphfhenjndkkaa
open Go Go.Arch

/-- Entries of epoch 3 that may stand in a log. -/
def Fine3 (l : List Ent) : Prop := l.length ≤ 64 ∧ ∀ e ∈ l, e.1 = 3 ∧ okEnt 3 e = true
theorem Fine3.ok {l : List Ent} (h : Fine3 l) : okLog l 3 = true := by
  refine (okLog_iff _ _).2 ⟨h.1, fun e he => (h.2 e he).2, (rises_iff l).2 ?_⟩
  intro i x y hx hy
  have h1 := (h.2 x (List.mem_of_getElem? hx)).1
  have h2 := (h.2 y (List.mem_of_getElem? hy)).1
  omega
theorem Fine3.pre {l m : List Ent} (h : Fine3 l) (hm : m <+: l) : Fine3 m := ⟨Nat.le_trans hm.length_le h.1, fun e he => h.2 e (hm.subset he)⟩
theorem Fine3.nil : Fine3 [] := ⟨by simp, by simp⟩
def reg3 (l : List Ent) (c : Int) : RegS := ⟨3, 3, l, c⟩
theorem reg3_may {l : List Ent} {c : Int} (h : Fine3 l) (h0 : 0 ≤ c) (h1 : c ≤ l.length) : mayR (reg3 l c) = true := (mayR_iff _).2 ⟨⟨by show (0:Int) ≤ 3; omega, Int.le_refl _, by show (3:Int) ≤ 1048576; omega⟩, h.ok, h0, h1⟩
/-- A piece of mail. -/
def mC (b : Int) (l : List Ent) (d : Int) : MailS := ⟨4, 1, 0, 1, 3, 0, b, d, 0, l⟩
theorem mC_ok {r : RegS} {b d : Int} {l : List Ent} (h : mayR r = true) (hb : 0 ≤ b) : mailOk r (mC b l d) := ⟨h, by show (0:Int) ≤ 1; omega, by show (1:Int) < 4; omega, hb, by show (1:Int) ≤ 3; omega, by show (3:Int) ≤ 1048576; omega⟩
theorem com_to {l : List Ent} {c d : Int} {m : MailS} (h : Fine3 l) (h0 : 0 ≤ c) (h1 : c ≤ l.length) (hm : m.len = d) : appliedS (reg3 l c) (comS (reg3 l c) m) = reg3 l (max c (min d l.length)) := by
  unfold comS
  rw [hm]
  by_cases hc : c < min d (l.length : Int)
  · rw [if_pos (by exact hc)]
    show (applyR (reg3 l c) (recC (reg3 l c) m)).getD (reg3 l c) = _
    unfold applyR recC
    rw [if_pos (reg3_may h h0 h1), if_neg (by show ¬ (3 : Int) = 1; decide), if_neg (by show ¬ (3 : Int) = 2; decide), if_pos (by rfl), hm, if_pos (by show c < min d (l.length : Int) ∧ min d (l.length : Int) ≤ (l.length : Int); omega)]
    show RegS.mk 3 3 l (min d (l.length : Int)) = reg3 l (max c (min d l.length))
    rw [show max c (min d (l.length : Int)) = min d (l.length : Int) by omega]
    rfl
  · rw [if_neg (by exact hc), show max c (min d (l.length : Int)) = c by omega]
    rfl
/-- The first piece. -/
theorem copy_first {l : List Ent} {d : Int} {may : Bool} (h : Fine3 l) (hd : 0 ≤ d) : appliedS reg0 (takeS reg0 may (mC 0 l d)).recs = reg3 l (min d l.length) := by
  have hA : applyR reg0 (recV (mC 0 l d) 0 l) = some (reg3 l 0) := by
    unfold applyR
    rw [if_pos may_reg0, if_neg (by show ¬ (2 : Int) = 1; decide), if_pos (by rfl)]
    unfold viewR
    rw [if_pos]
    · rfl
    · refine ⟨⟨by show (1:Int) ≤ 3; omega, by show (0:Int) ≤ 3; omega, by show (3:Int) ≤ 1048576; omega, rfl⟩, ?_, ⟨l, rfl⟩⟩
      show okLog ([] ++ l) 3 = true
      exact h.ok
  have hg : grownS reg0 (mC 0 l d) = some ([recV (mC 0 l d) 0 l], reg3 l 0) := by
    unfold grownS
    rw [if_neg (by show ¬ (3 : Int) = 0; decide)]
    show (applyR reg0 (recV (mC 0 l d) 0 l)).map _ = _
    rw [hA]
    rfl
  have e : takeS reg0 may (mC 0 l d) = ⟨[recV (mC 0 l d) 0 l] ++ comS (reg3 l 0) (mC 0 l d), [ackM (reg3 l 0) (mC 0 l d)], 1⟩ := by
    unfold takeS
    rw [if_pos (mC_ok may_reg0 (Int.le_refl _)), if_neg (by show ¬ (4 : Int) = 1; decide), if_pos (by rfl)]
    unfold layS
    rw [if_neg (by show ¬ (3 : Int) < 0; decide), if_neg (by show ¬ (((0 : Int) < 3 ∧ (0 : Int) < 0) ∨ ((0 : Nat) : Int) < 0); omega), hg]
  rw [e]
  show appliedS reg0 ([recV (mC 0 l d) 0 l] ++ comS (reg3 l 0) (mC 0 l d)) = _
  rw [show appliedS reg0 ([recV (mC 0 l d) 0 l] ++ comS (reg3 l 0) (mC 0 l d)) = appliedS (appliedS reg0 [recV (mC 0 l d) 0 l]) (comS (reg3 l 0) (mC 0 l d)) from by unfold appliedS; rw [List.foldl_append]]
  have e2 : appliedS reg0 [recV (mC 0 l d) 0 l] = reg3 l 0 := by
    show (applyR reg0 (recV (mC 0 l d) 0 l)).getD reg0 = _
    rw [hA]; rfl
  rw [e2, com_to (d := d) h (Int.le_refl _) (by omega) rfl, show max 0 (min d (l.length : Int)) = min d (l.length : Int) by omega]
/-- A piece that does not begin at the start, ahead of the others. -/
theorem copy_gap {l : List Ent} {k d : Int} {may : Bool} (hk : 0 < k) : appliedS reg0 (takeS reg0 may (mC k l d)).recs = reg0 := by
  have e : takeS reg0 may (mC k l d) = ⟨[], [gapM reg0 (mC k l d)], 0⟩ := by
    unfold takeS
    rw [if_pos (mC_ok may_reg0 (by omega)), if_neg (by show ¬ (4 : Int) = 1; decide), if_pos (by rfl)]
    unfold layS
    rw [if_neg (by show ¬ (3 : Int) < 0; decide), if_pos (by show ((0 : Int) < 3 ∧ (0 : Int) < k) ∨ ((0 : Nat) : Int) < k; omega)]
  rw [e]
  rfl
/-- A later piece. -/
theorem copy_next {l f : List Ent} {c d : Int} {b : Nat} {may : Bool} (h : Fine3 l) (h0 : 0 ≤ c) (h1 : c ≤ l.length) (hb : b ≤ l.length) (hj : Fine3 (l.take b ++ f)) (hp : l.take b ++ f <+: l ∨ l <+: l.take b ++ f) :
    appliedS (reg3 l c) (takeS (reg3 l c) may (mC b f d)).recs = (if l.take b ++ f <+: l then reg3 l (max c (min d l.length)) else reg3 (l.take b ++ f) (max c (min d (l.take b ++ f).length))) := by
  have hm := reg3_may h h0 h1
  have hjn : joinM (reg3 l c) (mC b f d) = l.take b ++ f := by
    unfold joinM
    show l.take ((b : Int).toNat) ++ f = _
    rw [Int.toNat_natCast]
  have base : ∀ L q, grownS (reg3 l c) (mC b f d) = some (L, q) → (takeS (reg3 l c) may (mC b f d)).recs = L ++ comS q (mC b f d) := fun L q hg => by
    unfold takeS
    rw [if_pos (mC_ok hm (by omega)), if_neg (by show ¬ (4 : Int) = 1; decide), if_pos (by rfl)]
    unfold layS
    rw [if_neg (by show ¬ (3 : Int) < 3; decide), if_neg (by show ¬ (((3 : Int) < 3 ∧ (0 : Int) < b) ∨ (l.length : Int) < b); omega), hg]
  by_cases hpre : l.take b ++ f <+: l
  · rw [if_pos hpre]
    have hg : grownS (reg3 l c) (mC b f d) = some ([], reg3 l c) := by
      unfold grownS
      rw [if_pos (by rfl), hjn, if_pos (show l.take b ++ f <+: (reg3 l c).log from hpre)]
    rw [base _ _ hg, List.nil_append, com_to (d := d) h h0 h1 rfl]
  · rw [if_neg hpre]
    have hp2 : l <+: l.take b ++ f := hp.resolve_left hpre
    obtain ⟨t, ht⟩ := hp2
    have hd : (l.take b ++ f).drop l.length = t := by rw [← ht, List.drop_left]
    have hA : applyR (reg3 l c) (recV (mC b f d) l.length t) = some (reg3 (l.take b ++ f) c) := by
      unfold applyR
      rw [if_pos hm, if_neg (by show ¬ (2 : Int) = 1; decide), if_pos (by rfl)]
      have hf : fromR (reg3 l c) (recV (mC b f d) l.length t) = l.length := if_pos rfl
      have hl : logR (reg3 l c) (recV (mC b f d) l.length t) = l.take b ++ f := by
        unfold logR
        rw [hf]
        show l.take l.length ++ t = _
        rw [List.take_length, ht]
      unfold viewR
      rw [hf, hl, if_pos]
      · rfl
      · refine ⟨⟨by show (1:Int) ≤ 3; omega, by show (3:Int) ≤ 3; omega, by show (3:Int) ≤ 1048576; omega, rfl⟩, hj.ok, ?_⟩
        show l.take c.toNat <+: l.take b ++ f
        exact (List.take_prefix _ _).trans ⟨t, ht⟩
    have hg : grownS (reg3 l c) (mC b f d) = some ([recV (mC b f d) l.length t], reg3 (l.take b ++ f) c) := by
      unfold grownS
      rw [if_pos (by rfl), hjn, if_neg (show ¬ l.take b ++ f <+: (reg3 l c).log from hpre), if_pos (show (reg3 l c).log <+: l.take b ++ f from ⟨t, ht⟩)]
      show (applyR (reg3 l c) (recV (mC b f d) l.length ((l.take b ++ f).drop l.length))).map (fun q => ([recV (mC b f d) l.length ((l.take b ++ f).drop l.length)], q)) = _
      rw [hd, hA]
      rfl
    rw [base _ _ hg]
    have e2 : appliedS (reg3 l c) ([recV (mC b f d) l.length t] ++ comS (reg3 (l.take b ++ f) c) (mC b f d)) = appliedS (reg3 (l.take b ++ f) c) (comS (reg3 (l.take b ++ f) c) (mC b f d)) := by
      show List.foldl _ ((applyR (reg3 l c) (recV (mC b f d) l.length t)).getD (reg3 l c)) _ = _
      rw [hA]
      rfl
    rw [e2, com_to (d := d) hj h0 (by have := (show l <+: l.take b ++ f from ⟨t, ht⟩).length_le; omega) rfl]
/-- One round of 'played'. -/
theorem plS_fst {L : List MailV} {k : Nat} {x : MailV} {m : MailS} (hx : L[k]? = some x) (hm : { x.m with stream := 1 } = m) : ∃ may, (plS L [] (k + 1)).1 = appliedS (plS L [] k).1 (takeS (plS L [] k).1 may m).recs := by
  subst hm
  refine ⟨mayL 0 ((plS L [] k).2.1 1) x.m.epoch ((plS L [] k).2.2 + 0), ?_⟩
  show (match L[k]? with | some x => pieceS (plS L [] k) x.m ([] : List Int)[k]? | none => plS L [] k).1 = _
  rw [hx]
  rfl
/-- The law. -/
theorem copy_whole {l : List Ent} {c : Int} {x : MailV} (h : Fine3 l) (h0 : 0 ≤ c) (h1 : c ≤ l.length) (hx : x.m = mC 0 l c) : (plS [x] [] 1).1 = reg3 l c := by
  obtain ⟨may, e⟩ := plS_fst (L := [x]) (k := 0) (x := x) (m := mC 0 l c) rfl (by rw [hx]; rfl)
  rw [e]
  show appliedS reg0 (takeS reg0 may (mC 0 l c)).recs = _
  rw [copy_first h h0, show min c (l.length : Int) = c by omega]
theorem copy_pieces {l : List Ent} {k : Nat} {c : Int} {x y : MailV} (h : Fine3 l) (h0 : 0 ≤ c) (h1 : c ≤ l.length) (hk : k ≤ l.length) (hx : x.m = mC 0 (l.take k) 0) (hy : y.m = mC k (l.drop k) c) : (plS [y, x, y, x] [] 4).1 = reg3 l c := by
  obtain ⟨a1, e1⟩ := plS_fst (L := [y, x, y, x]) (k := 0) (x := y) (m := mC k (l.drop k) c) rfl (by rw [hy]; rfl)
  obtain ⟨a2, e2⟩ := plS_fst (L := [y, x, y, x]) (k := 1) (x := x) (m := mC 0 (l.take k) 0) rfl (by rw [hx]; rfl)
  obtain ⟨a3, e3⟩ := plS_fst (L := [y, x, y, x]) (k := 2) (x := y) (m := mC k (l.drop k) c) rfl (by rw [hy]; rfl)
  obtain ⟨a4, e4⟩ := plS_fst (L := [y, x, y, x]) (k := 3) (x := x) (m := mC 0 (l.take k) 0) rfl (by rw [hx]; rfl)
  have last : ∀ q, (plS [y, x, y, x] [] 3).1 = reg3 l c → q = appliedS (plS [y, x, y, x] [] 3).1 (takeS (plS [y, x, y, x] [] 3).1 a4 (mC 0 (l.take k) 0)).recs → q = reg3 l c := fun q h3 hq => by
    rw [h3] at hq
    have := copy_next (l := l) (f := l.take k) (c := c) (d := 0) (b := 0) (may := a4) h h0 h1 (Nat.zero_le _) (by rw [List.take_zero, List.nil_append]; exact h.pre (List.take_prefix _ _)) (.inl (by rw [List.take_zero, List.nil_append]; exact List.take_prefix _ _))
    rw [if_pos (by rw [List.take_zero, List.nil_append]; exact List.take_prefix _ _)] at this
    rw [hq, show max c (min 0 (l.length : Int)) = c by omega] at *
    exact this
  have e1' : (plS [y, x, y, x] [] 1).1 = appliedS reg0 (takeS reg0 a1 (mC k (l.drop k) c)).recs := e1
  by_cases hk0 : k = 0
  · subst hk0
    have f1 : (plS [y, x, y, x] [] 1).1 = reg3 l c := by
      rw [e1']
      show appliedS reg0 (takeS reg0 a1 (mC 0 l c)).recs = _
      rw [copy_first h h0, show min c (l.length : Int) = c by omega]
    have f2 : (plS [y, x, y, x] [] 2).1 = reg3 l c := by
      rw [e2, f1]
      have := copy_next (l := l) (f := l.take 0) (c := c) (d := 0) (b := 0) (may := a2) h h0 h1 (Nat.zero_le _) (by simp; exact Fine3.nil) (.inl (by simp))
      rw [if_pos (by simp), show max c (min 0 (l.length : Int)) = c by omega] at this
      exact this
    have f3 : (plS [y, x, y, x] [] 3).1 = reg3 l c := by
      rw [e3, f2]
      have := copy_next (l := l) (f := l.drop 0) (c := c) (d := c) (b := 0) (may := a3) h h0 h1 (Nat.zero_le _) (by simpa using h) (.inl (by simp))
      rw [if_pos (by simp), show max c (min c (l.length : Int)) = c by omega] at this
      exact this
    exact last _ f3 e4
  · have f1 : (plS [y, x, y, x] [] 1).1 = reg0 := by
      rw [e1']
      exact copy_gap (by omega)
    have hlk : (l.take k).length = k := by rw [List.length_take]; omega
    have f2 : (plS [y, x, y, x] [] 2).1 = reg3 (l.take k) 0 := by
      rw [e2, f1, copy_first (h.pre (List.take_prefix _ _)) (Int.le_refl _), show min 0 ((l.take k).length : Int) = 0 by omega]
    have hj : (l.take k).take k ++ l.drop k = l := by rw [List.take_take, Nat.min_self, List.take_append_drop]
    have f3 : (plS [y, x, y, x] [] 3).1 = reg3 l c := by
      rw [e3, f2]
      have := copy_next (l := l.take k) (f := l.drop k) (c := 0) (d := c) (b := k) (may := a3) (h.pre (List.take_prefix _ _)) (Int.le_refl _) (by omega) (by omega) (by rw [hj]; exact h) (.inr (by rw [hj]; exact List.take_prefix _ _))
      rw [hj] at this
      rw [this]
      split
      · rename_i hp
        have hl := hp.length_le
        have hle : l.take k = l := List.take_of_length_le (by omega)
        rw [hle, show max 0 (min c (l.length : Int)) = c by omega]
      · rw [show max 0 (min c (l.length : Int)) = c by omega]
    exact last _ f3 e4
end Go.Proofs.Ytdphfhenjndkkaa

set_option linter.unusedSimpArgs false
set_option linter.unusedVariables false
set_option maxRecDepth 100000
namespace Go.Proofs.Ytdphfhenjndkkaa
open Go Go.RowKit Go.Sq Go.Wd Go.Arch Go.Im

/-- The owner's log. -/
def copyL (ids : List Int) : List Ent := ids.mapIdx fun i k => (3, 1 + k, 1, -1, 2, (i : Int))
theorem copyL_len (ids : List Int) : (copyL ids).length = ids.length := by unfold copyL; rw [List.length_mapIdx]
theorem copyL_get {ids : List Int} {j : Nat} {k : Int} (h : ids[j]? = some k) : (copyL ids)[j]? = some (3, 1 + k, 1, -1, 2, (j : Int)) := by
  unfold copyL
  rw [List.getElem?_mapIdx, h]
  rfl
theorem copyL_next {ids : List Int} {j : Nat} {k : Int} (h : ids[j]? = some k) : (copyL ids).take j ++ [(3, 1 + k, 1, -1, 2, (j : Int))] = (copyL ids).take (j + 1) := by
  rw [List.take_add_one, copyL_get h]
  rfl
theorem copyL_fine {ids : List Int} (h : ∀ k ∈ ids, 0 ≤ k ∧ k ≤ 255) (hl : ids.length ≤ 12) : Fine3 (copyL ids) := by
  refine ⟨by rw [copyL_len]; omega, fun e he => ?_⟩
  obtain ⟨j, hj⟩ := List.getElem?_of_mem he
  have hlt := (List.getElem?_eq_some_iff.1 hj).1
  rw [copyL_len] at hlt
  have hk := List.getElem?_eq_getElem hlt
  have hm := h _ (List.getElem_mem hlt)
  rw [copyL_get hk] at hj
  obtain rfl := Option.some.inj hj
  refine ⟨rfl, ?_⟩
  unfold okEnt ordOk ordE
  simp only [Bool.and_eq_true, decide_eq_true_eq]
  omega
theorem ents_one (w : World) (g : Nat) (e : Ent) (h : Blk w g 64 (vals e)) : Ents w w.heap.size (some ⟨g, 0, none⟩) [e] := fun _ => ⟨g, 0, rfl, h.lt, fun i x hx => by
  cases i with
  | succ i => simp at hx
  | zero =>
    obtain rfl : e = x := by simpa using hx
    exact ⟨h.cell 0, h.cell 1, h.cell 2, h.cell 3, h.cell 4, h.cell 5⟩⟩

/-- The log and the three pieces of mail. -/
def CpI (w W : World) (L : List Ent) (s : SlcE) (g1 g2 g3 : Nat) (x1 x2 x3 : MailV) : Prop :=
  (Below w.heap.size w W ∧ LogAt W W.heap.size s L) ∧ (Blk W g1 43 (mailv x1) ∧ Blk W g2 43 (mailv x2) ∧ Blk W g3 43 (mailv x3)) ∧ LogAt W W.heap.size x1.es x1.m.ents ∧ LogAt W W.heap.size x2.es x2.m.ents ∧ LogAt W W.heap.size x3.es x3.m.ents
theorem CpI.keep {w W W' : World} {L : List Ent} {s : SlcE} {g1 g2 g3 : Nat} {x1 x2 x3 : MailV} (h : CpI w W L s g1 g2 g3 x1 x2 x3) (hb : Below W.heap.size W W') : CpI w W' L s g1 g2 g3 x1 x2 x3 :=
  ⟨⟨below_trans h.1.1 hb h.1.1.size, h.1.2.keep hb⟩, ⟨h.2.1.1.keep hb, h.2.1.2.1.keep hb, h.2.1.2.2.keep hb⟩, h.2.2.1.keep hb, h.2.2.2.1.keep hb, h.2.2.2.2.keep hb⟩
theorem mails_four (w : World) (x y : MailV) (hx : LogAt w w.heap.size x.es x.m.ents) (hy : LogAt w w.heap.size y.es y.m.ents) :
    Mails (w.alloc (.cells (mailv y ++ (mailv x ++ (mailv y ++ mailv x))).toArray 43)) (w.alloc (.cells (mailv y ++ (mailv x ++ (mailv y ++ mailv x))).toArray 43)).heap.size (some ⟨w.heap.size, 0, none⟩) [y, x, y, x] := by
  have hs := Gr.Sl.lit (R := mailE) w [y, x, y, x]
  have hf : Gr.Enc.flat mailE [y, x, y, x] = mailv y ++ (mailv x ++ (mailv y ++ mailv x)) := by
    show mailv y ++ (mailv x ++ (mailv y ++ (mailv x ++ []))) = _
    rw [List.append_nil]
  rw [hf] at hs
  have hb := (Below.refl w.heap.size w).alloc (Nat.le_refl _) (.cells (mailv y ++ (mailv x ++ (mailv y ++ mailv x))).toArray 43)
  refine ⟨hs.more (by simp), fun z hz => ?_⟩
  have hz' : z = y ∨ z = x ∨ z = y ∨ z = x := by simpa using hz
  rcases hz' with rfl | rfl | rfl | rfl
  · exact hy.keep hb
  · exact hx.keep hb
  · exact hy.keep hb
  · exact hx.keep hb

set_option maxHeartbeats 16000000 in
theorem replicasCopy_walk (ids : List Int) (At_ : Option Addr) (ct : Nat) (cut cm : Int) (w : World) (ht : Nums w w.heap.size At_ .u8 ids) (htn : ids.length ≤ 9223372036854775807) (ht8 : ∀ k ∈ ids, 0 ≤ k ∧ k ≤ 255) (hc : 0 ≤ cut ∧ cut ≤ 255) (hd : 0 ≤ cm ∧ cm ≤ 255) :
    Calls Try.prog 6 #[.slice At_ ids.length ct, .int .u8 cut, .int .u8 cm] w fun e w' => e = .returned (.bool true) ∧ Below w.heap.size w w' := by
  have hw := Below.refl w.heap.size w
  by_cases h12 : 12 < ids.length
  · have h12' : (12 : Int) < (ids.length : Int) := by omega
    clear ht ht8 hc hd
    go_enter Try.func6, Try.ntmps6
    go_wp2_with fail
    refine (lives19_any _).mono ?_
    rintro e w2 ⟨rfl, hb⟩
    clear hw
    go_wp2_with fail
    go_ret
    exact ⟨rfl, hb⟩
  have h12' : ¬ (12 : Int) < (ids.length : Int) := by omega
  have HE := Lib.hid (And.intro ht (And.intro ht8 (And.intro hc hd)))
  have HF := Lib.hid (copyL_fine ht8 (by omega))
  have R0 : Row w w.heap.size (.slice none 0 0) ((copyL ids).take 0) := Row.nil w _
  clear ht ht8 hc hd
  go_enter Try.func6, Try.ntmps6
  go_wp2_with fail
  clear h12'
  go_loopg [7, 8] ids.length (fun q v i wr => ∃ j : Nat, q = ids.length - j ∧ j ≤ ids.length ∧ i = .int .i64 j ∧ Below w.heap.size w wr ∧ Row wr w.heap.size v ((copyL ids).take j))
  case atStart => exact ⟨0, rfl, by omega, rfl, hw, R0⟩
  case round =>
    clear R0 hw
    obtain ⟨j, hq, hj, rfl, hB, hR⟩ := hrel
    have AA : Aside (gk = ids.length - j) := hq
    clear hq
    obtain ⟨wo, rfl⟩ : ∃ wo, wo = wr := ⟨_, rfl⟩
    by_cases hlt : j < ids.length
    · have j0 : (0 : Int) ≤ (j : Int) := by omega
      have j1 : (j : Int) < (ids.length : Int) := by omega
      obtain ⟨b2, o2, k, rfl, hk, FT⟩ := HE.out.1.at_ hlt
      have hkr := HE.out.2.1 k (List.mem_of_getElem? hk.out)
      have ck := FT _ hB
      have wk : IntKind.i64.wrap k = k := IntWalk.i64_in _ (by omega)
      have ws : IntKind.i64.wrap (1 + k) = 1 + k := IntWalk.i64_in _ (by omega)
      have ha := (Below.refl wo.heap.size wo).alloc (Nat.le_refl _) (.cells (vals (3, 1 + k, 1, -1, 2, (j : Int))).toArray 64)
      have hRa := hR.keep ha
      obtain ⟨v', w', hrun, hR2, hg, _⟩ := Row.app hRa (some ⟨wo.heap.size, 0, none⟩) 1 (ents_one _ _ (3, 1 + k, 1, -1, 2, (j : Int)) (Blk.new wo 64 (vals (3, 1 + k, 1, -1, 2, (j : Int))))) (by rw [List.length_take, copyL_len]; simp; omega) (by simp; exact Nat.le_succ_of_le hB.size)
      have hB' := below_own (hB.alloc hB.size (.cells (vals (3, 1 + k, 1, -1, 2, (j : Int))).toArray 64)) hg hRa (by simp; exact Nat.le_succ_of_le hB.size)
      rw [copyL_next hk.out] at hR2
      have HN := Lib.hid (And.intro hB' hR2)
      clear ha hRa hR hR2 hg hB' hB hk FT hkr
      unfold vals at hrun
      dsimp only at hrun
      go_wp2_with (at_builtin; refine wpList_app rfl (by rfl) (by rfl) (by rfl) hrun ?_)
      go_roundg (ids.length - (j + 1))
      case measure => have hkk := AA.out; omega
      case rel => exact ⟨j + 1, rfl, by omega, by go_num, HN.out.1, HN.out.2⟩
    · obtain rfl : j = ids.length := by omega
      have j1 : ¬ (ids.length : Int) < (ids.length : Int) := by omega
      rw [List.take_of_length_le (by rw [copyL_len]; omega)] at hR
      obtain ⟨A, c, rfl, h1, h2, h3⟩ := hR.form
      have n12 : (copyL ids).length ≤ 12 := by rw [copyL_len]; omega
      generalize copyL ids = L at *
      have hc := HE.out.2.2.1
      have hd := HE.out.2.2.2
      have H0 := Lib.hid (show Below w.heap.size w wo ∧ LogAt wo wo.heap.size (A, L.length, c) L from ⟨hB, rfl, h1, h2, h3⟩)
      clear h3 hR hB HE AA
      obtain ⟨k, hk⟩ := Int.eq_ofNat_of_zero_le (Int.emod_nonneg cut (show ((L.length : Int) + 1) ≠ 0 by omega))
      obtain ⟨d, hd2⟩ := Int.eq_ofNat_of_zero_le (Int.emod_nonneg cm (show ((L.length : Int) + 1) ≠ 0 by omega))
      have k1 : k ≤ L.length := by have := Int.emod_lt_of_pos cut (show (0 : Int) < (L.length : Int) + 1 by omega); omega
      have d1 : d ≤ L.length := by have := Int.emod_lt_of_pos cm (show (0 : Int) < (L.length : Int) + 1 by omega); omega
      have k2 : (k : Int) ≤ (L.length : Int) := by omega
      have k3 : (k : Int) ≤ (c : Int) := by omega
      have k4 : k ≤ c := by omega
      go_wp2_with ((with_reducible refine at_list ?_); (with_reducible refine cut_at 56 rfl ?_))
      refine Cut.go ?_
      have hx1 : LogAt wo wo.heap.size (A, L.length, c) L := H0.out.2
      have hx2 := hx1.front k1
      have hx3 := hx1.back k1
      have HX := Lib.hid (And.intro H0.out.1 (And.intro hx1 (And.intro hx2 hx3)))
      have HD := Lib.hid (And.intro k1 d1)
      clear hk hd2 hc hd hx1 hx2 hx3 H0 n12
      go_wp2_with ((with_reducible refine at_list ?_); first | (with_reducible refine cut_at 59 rfl ?_) | (refine wpList_store_own rfl 43 _ _ rfl _ (mailv (mV (mC 0 L d) (A, L.length, c))) rfl rfl _ _ (Blk.new wo 43 (mailv backV0)) mail_info rfl (mail_one _) ?_; intro w4 B4 g4))
      refine Cut.go ?_
      have hb4 := below_new g4
      have H4 := Lib.hid (And.intro hb4 B4)
      clear hb4 B4 g4
      go_wp2_with ((with_reducible refine at_list ?_); first | (with_reducible refine cut_at 64 rfl ?_) | (refine wpList_store_own rfl 43 _ _ rfl _ (mailv (mV (mC 0 (L.take k) 0) (A, k, c))) rfl rfl _ _ (Blk.new w4 43 (mailv backV0)) mail_info rfl (mail_one _) ?_; intro w5 B5 g5))
      refine Cut.go ?_
      have hb5 := below_new g5
      have H5 := Lib.hid (And.intro hb5 B5)
      clear hb5 B5 g5
      by_cases hck : c = k
      case' pos =>
        have hkc := hck.symm
        have h3 : LogAt wo wo.heap.size (A, 0, 0) (L.drop k) := by
          have h := HX.out.2.2.2
          rw [if_pos hck, hck, Nat.sub_self, show L.length - k = 0 by omega] at h
          exact h
        have HS3 := Lib.hid h3
        clear h3 hck
        subst hkc
        go_wp2_with ((with_reducible refine at_list ?_); first | (with_reducible refine cut_at 68 rfl ?_) | (refine wpList_store_own rfl 43 _ _ rfl _ (mailv (mV (mC k (L.drop k) d) (A, 0, 0))) rfl rfl _ _ (Blk.new w5 43 (mailv backV0)) mail_info rfl (mail_one _) ?_; intro w6 B6 g6))
        refine Cut.go ?_
        have HM := Lib.hid (show ∃ s3, Blk w6 w5.heap.size 43 (mailv (mV (mC (k : Int) (L.drop k) (d : Int)) s3)) ∧ LogAt wo wo.heap.size s3 (L.drop k) from ⟨_, B6, HS3.out⟩)
      case' neg =>
        have h3 : LogAt wo wo.heap.size (Option.map (fun x => x.add (k * 6)) A, L.length - k, c - k) (L.drop k) := by
          have h := HX.out.2.2.2
          rw [if_neg hck] at h
          exact h
        have HS3 := Lib.hid h3
        clear h3
        go_wp2_with ((with_reducible refine at_list ?_); first | (with_reducible refine cut_at 68 rfl ?_) | (refine wpList_store_own rfl 43 _ _ rfl _ (mailv (mV (mC k (L.drop k) d) (Option.map (fun x => x.add (k * 6)) A, L.length - k, c - k))) rfl rfl _ _ (Blk.new w5 43 (mailv backV0)) mail_info rfl (mail_one _) ?_; intro w6 B6 g6))
        refine Cut.go ?_
        clear hck
        have HM := Lib.hid (show ∃ s3, Blk w6 w5.heap.size 43 (mailv (mV (mC (k : Int) (L.drop k) (d : Int)) s3)) ∧ LogAt wo wo.heap.size s3 (L.drop k) from ⟨_, B6, HS3.out⟩)
      all_goals
        have hb6 := below_new g6
        have H6 := Lib.hid hb6
        clear hb6 B6 g6 HS3 k2 k3 k4
        obtain ⟨s3, B6, h63⟩ := HM.out
        clear HM
        have hc5 := H5.out.1
        have hc6 := H6.out
        have hbA := below_trans (H4.out.1) hc5 H4.out.1.size
        have hbB := below_trans hbA hc6 hbA.size
        have hb56 := below_trans hc5 hc6 hc5.size
        have hE : ∃ x1 x2 x3 : MailV, x1.m = mC 0 L d ∧ x2.m = mC 0 (L.take k) 0 ∧ x3.m = mC k (L.drop k) d ∧ CpI w w6 L (A, L.length, _) wo.heap.size w4.heap.size w5.heap.size x1 x2 x3 :=
          ⟨_, _, _, rfl, rfl, rfl, ⟨⟨below_trans HX.out.1 hbB HX.out.1.size, HX.out.2.1.keep hbB⟩, ⟨H4.out.2.keep hb56, H5.out.2.keep hc6, B6⟩, HX.out.2.1.keep hbB, HX.out.2.2.1.keep hbB, h63.keep hbB⟩⟩
        obtain ⟨x1, x2, x3, hx1, hx2, hx3, hI⟩ := hE
        have HM := Lib.hid (And.intro hx1 (And.intro hx2 hx3))
        have HI := Lib.hid hI
        have hn12 : L.length ≤ 100 := Nat.le_trans HF.out.1 (by decide)
        clear hI B6 h63 hc5 hc6 hbA hbB hb56 H4 H5 H6 HX hx1 hx2 hx3
        generalize wo.heap.size = g1 at HI ⊢
        generalize w4.heap.size = g2 at HI ⊢
        generalize w5.heap.size = g3 at HI ⊢
        go_wp2_with ((with_reducible refine at_list ?_); first | (with_reducible refine cut_at 69 rfl ?_) | refine wpList_load_blk rfl 43 _ rfl _ rfl _ _ _ (HI.out.2.1.1) Try.underlying43 rfl mail_info ?_)
        refine Cut.go ?_
        have HA := Lib.hid (And.intro (mails_lit w6 x1 HI.out.2.2.1) ((Below.refl w6.heap.size w6).alloc (Nat.le_refl _) (.cells (mailv x1).toArray 43)))
        have hf1 : Few [x1] := ⟨by simp, fun y hy => by rw [List.mem_singleton.1 hy, HM.out.1]; exact hn12⟩
        have HF1 := Lib.hid hf1
        clear hf1
        unfold mailv at HA ⊢
        go_wp2_with fail
        refine (played_any [x1] (some ⟨w6.heap.size, 0, none⟩) 1 [] none 0 _ HA.out.1 HF1.out (fun h => absurd h (by simp)) (by simp) (by simp)).mono ?_
        rintro e w7 ⟨q, s7, b, m, n, nv, G, rfl, hpl, -, -, hmr, hL, -, hb7, -⟩
        have hq : q = reg3 L d := by
          have h1 := copy_whole (c := (d : Int)) (x := x1) HF.out (by omega) (by have := HD.out.2; omega) HM.out.1
          have h2 : (plS [x1] [] 1).1 = q := congrArg Prod.fst hpl
          exact h2.symm.trans h1
        have hb67 := below_trans HA.out.2 hb7 HA.out.2.size
        have H7 := Lib.hid (And.intro (HI.out.keep hb67) (hL.1))
        have HQ := Lib.hid hq
        clear hq hb67 hL hb7 HA HF1 hpl hmr HI
        go_wp2_with ((with_reducible refine at_list ?_); first | (with_reducible refine cut_at 75 rfl ?_) | (refine wpList_store_own rfl 37 _ _ rfl _ (rgv q s7) rfl rfl _ _ (Blk.new w7 37 (rgv reg0 (none, 0, 0))) rg_info rfl (rgv_one _ _) ?_; intro w8 B8 g8))
        refine Cut.go ?_
        have hb8 := below_new g8
        have H8 := Lib.hid (And.intro (H7.out.1.keep hb8) (And.intro (H7.out.2.keep hb8) B8))
        clear hb8 B8 g8 H7
        generalize w7.heap.size = gq at H8 ⊢
        go_wp2_with ((with_reducible refine at_list ?_); first | (with_reducible refine cut_at 79 rfl ?_) | refine wpList_load_blk rfl 43 _ rfl _ rfl _ _ _ (H8.out.1.2.1.2.2) Try.underlying43 rfl mail_info ?_ | refine wpList_load_blk rfl 43 _ rfl _ rfl _ _ _ (H8.out.1.2.1.2.1) Try.underlying43 rfl mail_info ?_)
        refine Cut.go ?_
        have HA := Lib.hid (And.intro (mails_four w8 x2 x3 H8.out.1.2.2.2.1 H8.out.1.2.2.2.2) ((Below.refl w8.heap.size w8).alloc (Nat.le_refl _) (.cells (mailv x3 ++ (mailv x2 ++ (mailv x3 ++ mailv x2))).toArray 43)))
        have hf1 : Few [x3, x2, x3, x2] := ⟨by simp, fun y hy => by
          have hz : y = x3 ∨ y = x2 ∨ y = x3 ∨ y = x2 := by simpa using hy
          have e2 : x2.m.ents.length ≤ 100 := by rw [HM.out.2.1]; show (L.take k).length ≤ 100; rw [List.length_take]; omega
          have e3 : x3.m.ents.length ≤ 100 := by rw [HM.out.2.2]; show (L.drop k).length ≤ 100; rw [List.length_drop]; omega
          rcases hz with rfl | rfl | rfl | rfl
          · exact e3
          · exact e2
          · exact e3
          · exact e2⟩
        have HF1 := Lib.hid hf1
        clear hf1
        unfold mailv at HA ⊢
        simp only [List.cons_append, List.nil_append] at HA
        go_wp2_with fail
        refine (played_any [x3, x2, x3, x2] (some ⟨w8.heap.size, 0, none⟩) 4 [] none 0 _ HA.out.1 HF1.out (fun h => absurd h (by simp)) (by simp) (by simp)).mono ?_
        rintro e w9 ⟨q2, s9, b2, m2, n2, nv2, G2, rfl, hpl, -, -, -, hL, -, hb9, -⟩
        have hq : q2 = q := by
          have h1 := copy_pieces (c := (d : Int)) (x := x2) (y := x3) (k := k) HF.out (by omega) (by have := HD.out.2; omega) HD.out.1 HM.out.2.1 HM.out.2.2
          have h2 : (plS [x3, x2, x3, x2] [] 4).1 = q2 := congrArg Prod.fst hpl
          exact (h2.symm.trans h1).trans HQ.out.symm
        subst hq
        have hb89 := below_trans HA.out.2 hb9 HA.out.2.size
        have H9 := Lib.hid (And.intro (H8.out.1.1.1.trans (hb89.mono H8.out.1.1.1.size)) (And.intro (H8.out.1.1.2.keep hb89) (And.intro (H8.out.2.1.keep hb89) (And.intro (H8.out.2.2.keep hb89) hL.1))))
        clear hb89 hL hb9 HA HF1 hpl H8
        go_wp2_with ((with_reducible refine at_list ?_); first | (with_reducible refine cut_at 84 rfl ?_) | (refine wpList_store_own rfl 37 _ _ rfl _ (rgv q2 s9) rfl rfl _ _ (Blk.new w9 37 (rgv reg0 (none, 0, 0))) rg_info rfl (rgv_one _ _) ?_; intro w10 B10 g10))
        refine Cut.go ?_
        have hb10 := below_new g10
        have H10 := Lib.hid (And.intro (below_trans H9.out.1 hb10 H9.out.1.size) (And.intro (H9.out.2.1.keep hb10) (And.intro (H9.out.2.2.1.keep hb10) (And.intro (H9.out.2.2.2.1.keep hb10) (And.intro (H9.out.2.2.2.2.keep hb10) B10)))))
        clear hb10 B10 g10 H9
        generalize w9.heap.size = gq2 at H10 ⊢
        go_wp2_with ((with_reducible refine at_list ?_); first | refine wpList_load_blk rfl 37 _ rfl _ rfl _ _ _ (H10.out.2.2.2.1) Try.underlying37 rfl rg_info ?_ | refine wpList_load_blk rfl 37 _ rfl _ rfl _ _ _ (H10.out.2.2.2.2.2) Try.underlying37 rfl rg_info ?_)
        refine (samereg_any q2 q2 s7 s9 w10 H10.out.2.2.1 H10.out.2.2.2.2.1 rfl).mono ?_
        rintro e w11 ⟨rfl, hb11⟩
        have c2 : w11.cell? ⟨gq, 2, none⟩ = some (.slice s7.1 s7.2.1 s7.2.2) := (H10.out.2.2.2.1.keep hb11).cell 2
        go_wp2_with fail
        refine (same_sl q2.log L s7 (A, L.length, _) w11 (H10.out.2.2.1.keep hb11) (H10.out.2.1.keep hb11) (by rw [HQ.out]; rfl)).mono ?_
        rintro e w12 ⟨rfl, hb12⟩
        have hbx := below_trans hb11 hb12 hb11.size
        have c3 : w12.cell? ⟨gq, 3, none⟩ = some (.int .i64 (d : Int)) := by
          rw [(H10.out.2.2.2.1.keep hbx).cell, HQ.out]
          rfl
        have c1 : w12.cell? ⟨gq, 1, none⟩ = some (.int .i64 3) := by
          rw [(H10.out.2.2.2.1.keep hbx).cell, HQ.out]
          rfl
        have hwx := below_trans H10.out.1 hbx H10.out.1.size
        have HW := Lib.hid hwx
        clear hbx hwx c2 hb11 hb12 H10
        go_wp2_with fail
        refine (lives19_any _).mono ?_
        rintro e w13 ⟨rfl, hb13⟩
        have hfin := below_trans HW.out hb13 HW.out.size
        clear hb13 c1 c3
        go_wp2_with fail
        go_ret
        exact ⟨rfl, hfin⟩
end Go.Proofs.Ytdphfhenjndkkaa
