/-
  The walk over chapter 19's 'lives'.
  The plain laws of what a site does: what is promised, and what stays.
  The walk over chapter 19's 'beyond'.
  An argument that is a struct by value, opened to the values of its fields.
  Slices that come in, of elements of any number of cells: entries, registers.
  A slice of numbers as an argument.
  The walk over the statement ReplicasRefuse.
  A slice within a struct that comes in.
  Registers and records that come in.
  Structs of numbers that come in, of any number of fields.
  Slices of structs that come in, whatever struct.
  Mail that comes in, and what a ballot begins with.
-/
import Derived.Test.YtdphfhenjndkkaaProg
import Derived.Deep.Slices
import Derived.Deep.Fields
import Derived.ChangeSame
import Derived.ProofKit
import Derived.OpenShut
import Derived.Test.YtdphfhenjndkkaaReplicasRefuseK1
import Derived.Test.YtdphfhenjndkkaaReplicasRefuseK2
import Derived.Test.YtdphfhenjndkkaaReplicasRefuseK3
import Derived.Test.YtdphfhenjndkkaaReplicasRefuseK4
import Derived.Test.YtdphfhenjndkkaaReplicasRefuseK5
set_option linter.unusedSimpArgs false
set_option linter.unusedVariables false
set_option maxRecDepth 100000
namespace Go.Proofs.Ytdphfhenjndkkaa
open Go Go.RowKit Go.Sq Go.Wd Go.Arch Go.Im

def eL1 : Ent := (2, 5, 0, -1, 1, 1)
def eL2 : Ent := (2, 6, 0, -1, 2, 1)
def mL1 : MailS := ⟨1, 1, 0, 0, 2, 0, 0, 0, 7, []⟩
def mL2 : MailS := ⟨1, 2, 0, 0, 1, 0, 0, 0, 0, []⟩
def mL3 : MailS := ⟨4, 1, 0, 0, 2, 0, 0, 1, 9, [eL1, eL2]⟩
def mL4 : MailS := ⟨4, 1, 0, 0, 2, 0, 5, 0, 0, []⟩
def rL2 : RegS := ⟨2, 0, [], 0⟩
def rL4 : RegS := ⟨2, 2, [eL1, eL2], 1⟩
def gL1 : Int → Option (Int × Int) := grantL (fun _ => none) 0 2 3
theorem mayL1 : mayL 0 ((fun _ => none : Int → Option (Int × Int)) 0) 2 3 = true := rfl
theorem mayL2 : mayL 0 (gL1 0) 1 3 = false := by decide
theorem sayL1 : takeS reg0 true mL1 = ⟨[⟨1, 0, 2, 0, 0, 0, []⟩], [⟨2, 0, 1, 0, 2, 0, 0, 0, 7, []⟩], 1⟩ := rfl
theorem sayL2 : takeS rL2 false mL2 = ⟨[], [⟨3, 0, 2, 0, 2, 0, 0, 0, 0, []⟩], 0⟩ := rfl
theorem sayL3 (may : Bool) : takeS rL2 may mL3 = ⟨[⟨2, 0, 2, 0, 0, 0, [eL1, eL2]⟩, ⟨3, 0, 0, 0, 0, 1, []⟩], [⟨5, 0, 1, 0, 2, 0, 0, 2, 9, []⟩], 1⟩ := rfl
theorem sayL4 (may : Bool) : takeS rL4 may mL4 = ⟨[], [⟨6, 0, 1, 0, 2, 0, 0, 2, 0, []⟩], 0⟩ := rfl

theorem map_one {α β : Type} {f : α → β} {l : List α} {b : β} (h : l.map f = [b]) : ∃ a, l = [a] ∧ f a = b := by
  match l, h with
  | [a], h => exact ⟨a, rfl, by simpa using h⟩
theorem map_two {α β : Type} {f : α → β} {l : List α} {b c : β} (h : l.map f = [b, c]) : ∃ a d, l = [a, d] ∧ f a = b ∧ f d = c := by
  match l, h with
  | [a, d], h => exact ⟨a, d, rfl, by simpa using h⟩
theorem map_none {α β : Type} {f : α → β} {l : List α} (h : l.map f = []) : l = [] := List.map_eq_nil_iff.1 h
/-- The one piece of mail. -/
theorem mail_one_at {w : World} {A : Option Addr} {y : MailV} (h : Mails w w.heap.size A [y]) : ∃ b o, A = some ⟨b, o, none⟩ ∧ (w.cell? ⟨b, o, none⟩ = some (.int .i64 y.m.kind) ∧ w.cell? ⟨b, o + 2, none⟩ = some (.int .i64 y.m.to) ∧ w.cell? ⟨b, o + 4, none⟩ = some (.int .i64 y.m.epoch) ∧ w.cell? ⟨b, o + 7, none⟩ = some (.int .i64 y.m.len) ∧ w.cell? ⟨b, o + 8, none⟩ = some (.int .i64 y.m.stamp)) := by
  obtain ⟨b, o, x, ha, hx, _, hc, _⟩ := h.at_ (k := 0) (by simp)
  obtain rfl : y = x := Option.some.inj hx.out
  refine ⟨b, o, ha, ?_⟩
  have h := hc w (Below.refl _ _)
  rw [Nat.zero_mul, Nat.add_zero] at h
  exact ⟨h 0 (by omega), h 2 (by omega), h 4 (by omega), h 7 (by omega), h 8 (by omega)⟩
/-- The k-th record. -/
theorem rec_cells {w : World} {A : Option Addr} {l : List RecV} (h : Rcs w w.heap.size A l) {k : Nat} {y : RecV} (hk : l[k]? = some y) : ∃ b o, A = some ⟨b, o, none⟩ ∧ w.cell? ⟨b, o + k * 8, none⟩ = some (.int .i64 y.kind) ∧ w.cell? ⟨b, o + k * 8 + 2, none⟩ = some (.int .i64 y.epoch) ∧ w.cell? ⟨b, o + k * 8 + 5, none⟩ = some (.int .i64 y.len) := by
  obtain ⟨b, o, x, ha, hx, hc, _⟩ := h.at8 (List.getElem?_eq_some_iff.1 hk).1
  obtain rfl : y = x := by have := hx.out; rw [hk] at this; exact Option.some.inj this
  obtain ⟨c0, c1, c2, c3, c4, c5, _⟩ := hc w (Below.refl _ _)
  exact ⟨b, o, ha, c0, c2, c5⟩

def mV (m : MailS) (s : SlcE) : MailV := ⟨m, s, (0, 0, 0, 0, 0), (0, 0, 0)⟩
theorem log_two (w : World) (g : Nat) (a b : Ent) (h : Blk w g 64 (vals a ++ vals b)) : LogAt w w.heap.size (some ⟨g, 0, none⟩, 2, 2) [a, b] := by
  refine ⟨rfl, Nat.le_refl _, by simp, fun _ => ⟨g, 0, rfl, h.lt, fun i x hx => ?_⟩⟩
  have hi := (List.getElem?_eq_some_iff.1 hx).1
  have h2 : i = 0 ∨ i = 1 := by simp at hi; omega
  rcases h2 with rfl | rfl
  · obtain rfl : a = x := Option.some.inj hx
    exact ⟨h.cell 0, h.cell 1, h.cell 2, h.cell 3, h.cell 4, h.cell 5⟩
  · obtain rfl : b = x := Option.some.inj hx
    exact ⟨h.cell 6, h.cell 7, h.cell 8, h.cell 9, h.cell 10, h.cell 11⟩
/-- What stands between two calls. -/
def LvI (w W : World) (b m n : Nat) (G : Int → Option (Int × Int)) : Prop := Below w.heap.size w W ∧ LogAt W W.heap.size (some ⟨w.heap.size + 1, 0, none⟩, 2, 2) [eL1, eL2] ∧ Bk W b m n 0 G ∧ w.heap.size ≤ m
theorem LvI.take {w W W' : World} {b m n n' : Nat} {G G' : Int → Option (Int × Int)} (h : LvI w W b m n G) (hB : Bk W' b m n' 0 G') (hK : Kept W W' (some m) none) : LvI w W' b m n' G' :=
  ⟨h.1.trans (hK.below (B := w.heap.size) (fun k e => by cases e; exact h.2.2.2) (fun k e => by cases e) h.1.size), h.2.1.turned h.2.2.1 hK, hB, h.2.2.2⟩
theorem LvI.keep {w W W' : World} {b m n : Nat} {G : Int → Option (Int × Int)} (h : LvI w W b m n G) (hb : Below W.heap.size W W') : LvI w W' b m n G :=
  ⟨below_trans h.1 hb h.1.size, h.2.1.keep hb, h.2.2.1.below hb, h.2.2.2⟩

set_option maxHeartbeats 8000000 in
theorem lives19_any (w : World) : Calls Try.prog 11 #[] w fun e w' => e = .returned (.bool true) ∧ Below w.heap.size w w' := by
  go_enter Try.func11, Try.ntmps11
  go_wp2_with ((with_reducible refine at_list ?_); (with_reducible refine cut_at 13 rfl ?_))
  refine Cut.go ?_
  refine abs_list (fun W => Below w.heap.size w W ∧ Blk W (w.heap.size + 1) 64 (vals eL1 ++ vals eL2)) ⟨((Below.refl _ _).alloc (Nat.le_refl _) _).alloc (by simp) _, Blk.newAt _ _ (vals eL1 ++ vals eL2) (by simp)⟩ ?_
  rintro w0 ⟨hw0, hE0⟩
  have H0 := Lib.hid (And.intro hw0 (log_two w0 _ eL1 eL2 hE0))
  clear hw0 hE0
  go_wp2_with fail
  refine (lnew_any 0 (by decide) false _).mono ?_
  rintro e w1 ⟨b, m, rfl, hB, hb1, hbb, hbm⟩
  have H1 := Lib.hid (show LvI w w1 b m 0 (fun _ => none) from ⟨below_trans H0.out.1 hb1 H0.out.1.size, H0.out.2.keep hb1, hB, by have := H0.out.1.size; omega⟩)
  clear hB hb1 hbb hbm H0
  go_wp2_with fail
  have hT := take_any reg0 (none, 0, 0) b m 0 0 (fun _ => none) (mV mL1 (none, 0, 0)) 3 w1 H1.out.2.2.1 (by unfold maxLen; omega) (by decide) LogAt.nil LogAt.nil (by decide)
  have hs : takeS reg0 (mayL 0 ((fun _ => none : Int → Option (Int × Int)) (mV mL1 (none, 0, 0)).m.stream) (mV mL1 (none, 0, 0)).m.epoch 3) (mV mL1 (none, 0, 0)).m = ⟨[⟨1, 0, 2, 0, 0, 0, []⟩], [⟨2, 0, 1, 0, 2, 0, 0, 0, 7, []⟩], 1⟩ := sayL1
  rw [hs] at hT
  have HT := Lib.hid hT
  clear hT hs
  refine HT.out.mono ?_
  clear HT
  rintro e w2 ⟨⟨A1, c1, A2, c2, xs, ys, rfl, hR, hM, hxs, hys, -, -⟩, hB2, hK2⟩
  obtain ⟨x1, rfl, hx1⟩ := map_one hxs
  obtain ⟨y1, rfl, hy1⟩ := map_one hys
  have H2 := Lib.hid (show LvI w w2 b m 1 gL1 from H1.out.take hB2 hK2)
  obtain ⟨b3, o3, rfl, k0, k2, k5⟩ := rec_cells hR (k := 0) rfl
  obtain ⟨b4, o4, rfl, n0, n2, n4, n7, n8⟩ := mail_one_at hM
  rw [Nat.zero_mul, Nat.add_zero] at k0 k2
  rw [show x1.kind = 1 from congrArg RecS.kind hx1] at k0
  rw [show x1.epoch = 2 from congrArg RecS.epoch hx1] at k2
  rw [show y1.m.kind = 2 from congrArg MailS.kind hy1] at n0
  rw [show y1.m.to = 1 from congrArg MailS.to hy1] at n2
  rw [show y1.m.stamp = 7 from congrArg MailS.stamp hy1] at n8
  clear hR hM hxs hys hx1 hy1 hB2 hK2 k5 n4 n7 H1
  go_wp2_with ((with_reducible refine at_list ?_); (with_reducible refine cut_at 66 rfl ?_))
  refine Cut.go ?_
  clear k0 k2 n0 n2 n8
  refine abs_list (fun W => LvI w W b m 1 gL1 ∧ Blk W w2.heap.size 37 (rgv rL2 (none, 0, 0))) ⟨H2.out.keep ((Below.refl _ _).alloc (Nat.le_refl _) _), Blk.new w2 37 (rgv rL2 (none, 0, 0))⟩ ?_
  have hgw := H2.out.1.size
  clear H2
  rintro w3 h3
  have H3 := Lib.hid h3
  clear h3
  generalize w2.heap.size = gt at H3 hgw ⊢
  have hT := take_any rL2 (none, 0, 0) b m 1 0 gL1 (mV mL2 (none, 0, 0)) 3 w3 H3.out.1.2.2.1 (by unfold maxLen; omega) (by decide) LogAt.nil LogAt.nil (by decide)
  have hs : takeS rL2 (mayL 0 (gL1 (mV mL2 (none, 0, 0)).m.stream) (mV mL2 (none, 0, 0)).m.epoch 3) (mV mL2 (none, 0, 0)).m = ⟨[], [⟨3, 0, 2, 0, 2, 0, 0, 0, 0, []⟩], 0⟩ := by
    rw [show mayL 0 (gL1 (mV mL2 (none, 0, 0)).m.stream) (mV mL2 (none, 0, 0)).m.epoch 3 = false from mayL2]
    exact sayL2
  rw [hs] at hT
  have HT := Lib.hid hT
  clear hT hs
  go_wp2_with ((with_reducible refine at_list ?_); first | refine wpList_load_blk rfl 37 _ rfl _ rfl _ _ _ (H3.out.2) Try.underlying37 rfl rg_info ?_)
  refine HT.out.mono ?_
  clear HT
  rintro e w4 ⟨⟨A1, c1, A2, c2, xs, ys, rfl, hR, hM, hxs, hys, -, -⟩, hB4, hK4⟩
  obtain ⟨y1, rfl, hy1⟩ := map_one hys
  have H4 := Lib.hid (And.intro (show LvI w w4 b m 2 gL1 from H3.out.1.take hB4 hK4) (hK4.blk H3.out.2 (fun e => H3.out.1.2.2.1.notBlk H3.out.2 (Option.some.inj e)) (by simp)))
  obtain ⟨b4, o4, rfl, n0, n2, n4, n7, n8⟩ := mail_one_at hM
  rw [show y1.m.kind = 3 from congrArg MailS.kind hy1] at n0
  rw [show y1.m.epoch = 2 from congrArg MailS.epoch hy1] at n4
  clear hR hM hxs hys hy1 hB4 hK4 n2 n7 n8 H3
  have hT := take_any rL2 (none, 0, 0) b m 2 0 gL1 (mV mL3 (some ⟨w.heap.size + 1, 0, none⟩, 2, 2)) 3 w4 H4.out.1.2.2.1 (by unfold maxLen; omega) (by decide) LogAt.nil H4.out.1.2.1 (show (2 : Nat) ≤ 1000 from by decide)
  have hs := sayL3 (mayL 0 (gL1 (mV mL3 (some ⟨w.heap.size + 1, 0, none⟩, 2, 2)).m.stream) (mV mL3 (some ⟨w.heap.size + 1, 0, none⟩, 2, 2)).m.epoch 3)
  rw [show takeS rL2 (mayL 0 (gL1 (mV mL3 (some ⟨w.heap.size + 1, 0, none⟩, 2, 2)).m.stream) (mV mL3 (some ⟨w.heap.size + 1, 0, none⟩, 2, 2)).m.epoch 3) (mV mL3 (some ⟨w.heap.size + 1, 0, none⟩, 2, 2)).m = _ from hs] at hT
  have HT := Lib.hid hT
  clear hT hs
  go_wp2_with ((with_reducible refine at_list ?_); first | refine wpList_load_blk rfl 37 _ rfl _ rfl _ _ _ (H4.out.2) Try.underlying37 rfl rg_info ?_)
  clear n0 n4
  refine HT.out.mono ?_
  clear HT
  rintro e w5 ⟨⟨A1, c1, A2, c2, xs, ys, rfl, hR, hM, hxs, hys, -, -⟩, hB5, hK5⟩
  obtain ⟨x1, x2, rfl, hx1, hx2⟩ := map_two hxs
  obtain ⟨y1, rfl, hy1⟩ := map_one hys
  have H5 := Lib.hid (And.intro (show LvI w w5 b m 3 (grantL gL1 0 2 3) from H4.out.1.take hB5 hK5) (hK5.blk H4.out.2 (fun e => H4.out.1.2.2.1.notBlk H4.out.2 (Option.some.inj e)) (by simp)))
  obtain ⟨b3, o3, rfl, k0, k2, k5⟩ := rec_cells hR (k := 1) rfl
  obtain ⟨b4, o4, rfl, n0, n2, n4, n7, n8⟩ := mail_one_at hM
  rw [Nat.one_mul] at k0 k5
  rw [show x2.kind = 3 from congrArg RecS.kind hx2] at k0
  rw [show x2.len = 1 from congrArg RecS.len hx2] at k5
  rw [show y1.m.kind = 5 from congrArg MailS.kind hy1] at n0
  rw [show y1.m.len = 2 from congrArg MailS.len hy1] at n7
  rw [show y1.m.stamp = 9 from congrArg MailS.stamp hy1] at n8
  clear hR hM hxs hys hx1 hx2 hy1 hB5 hK5 k2 n2 n4 H4
  go_wp2_with ((with_reducible refine at_list ?_); first | (with_reducible refine cut_at 143 rfl ?_) | (refine wpList_store_own rfl 37 _ _ rfl _ (rgv rL4 (some ⟨w.heap.size + 1, 0, none⟩, 2, 2)) rfl rfl _ _ (H5.out.2) rg_info rfl (rgv_one _ _) ?_; intro w6 B6 g6))
  refine Cut.go ?_
  clear k0 k5 n0 n7 n8
  have hl6 := H5.out.1.2.1.stored H5.out.2 (by simp [rgv]) g6
  have hb6 : Below w.heap.size w w6 := H5.out.1.1.trans (below_grown g6 hgw H5.out.1.1.size)
  have hk6 : Bk w6 b m 3 0 (grantL gL1 0 2 3) := H5.out.1.2.2.1.kept g6 (fun e => by
    have h1 := H5.out.2
    have h2 := H5.out.1.2.2.1.1
    cases e
    unfold Blk at h1
    simp [World.cell?, h1, rgv] at h2) (fun e => H5.out.1.2.2.1.notBlk H5.out.2 (Option.some.inj e).symm)
  have H6 := Lib.hid (And.intro (show LvI w w6 b m 3 (grantL gL1 0 2 3) from ⟨hb6, hl6, hk6, H5.out.1.2.2.2⟩) B6)
  clear hl6 hb6 hk6 B6 g6 H5
  have hT := take_any rL4 (some ⟨w.heap.size + 1, 0, none⟩, 2, 2) b m 3 0 (grantL gL1 0 2 3) (mV mL4 (none, 0, 0)) 3 w6 H6.out.1.2.2.1 (by unfold maxLen; omega) (by decide) H6.out.1.2.1 LogAt.nil (by decide)
  have hs := sayL4 (mayL 0 (grantL gL1 0 2 3 (mV mL4 (none, 0, 0)).m.stream) (mV mL4 (none, 0, 0)).m.epoch 3)
  rw [show takeS rL4 (mayL 0 (grantL gL1 0 2 3 (mV mL4 (none, 0, 0)).m.stream) (mV mL4 (none, 0, 0)).m.epoch 3) (mV mL4 (none, 0, 0)).m = _ from hs] at hT
  have HT := Lib.hid hT
  clear hT hs
  go_wp2_with ((with_reducible refine at_list ?_); first | refine wpList_load_blk rfl 37 _ rfl _ rfl _ _ _ (H6.out.2) Try.underlying37 rfl rg_info ?_)
  refine HT.out.mono ?_
  clear HT
  rintro e w7 ⟨⟨A1, c1, A2, c2, xs, ys, rfl, hR, hM, hxs, hys, -, -⟩, hB7, hK7⟩
  obtain rfl := map_none hxs
  obtain ⟨y1, rfl, hy1⟩ := map_one hys
  have H7 := Lib.hid (H6.out.1.take hB7 hK7).1
  obtain ⟨b4, o4, rfl, n0, n2, n4, n7, n8⟩ := mail_one_at hM
  rw [show y1.m.kind = 6 from congrArg MailS.kind hy1] at n0
  rw [show y1.m.len = 2 from congrArg MailS.len hy1] at n7
  clear hR hM hxs hys hy1 hB7 hK7 n2 n4 n8 H6
  go_wp2_with fail
  go_ret
  exact ⟨rfl, H7.out⟩
end Go.Proofs.Ytdphfhenjndkkaa

set_option linter.unusedSimpArgs false
set_option linter.unusedVariables false
set_option maxRecDepth 100000
namespace Go.Proofs.Ytdphfhenjndkkaa
open Go Go.RowKit Go.Sq Go.Wd Go.Arch

/-- What stays of a register. -/
def StaysR (r n : RegS) : Prop := mayR n = true ∧ r.com ≤ n.com ∧ n.log.take r.com.toNat = r.log.take r.com.toNat
theorem may_com {r : RegS} (h : mayR r = true) : 0 ≤ r.com ∧ r.com ≤ r.log.length ∧ r.log.length ≤ 64 := by
  obtain ⟨_, h2, h3, h4⟩ := (mayR_iff r).1 h
  exact ⟨h3, h4, ((okLog_iff _ _).1 h2).1⟩
theorem stays_refl {r : RegS} (h : mayR r = true) : StaysR r r := ⟨h, Int.le_refl _, rfl⟩
theorem stays_trans {r n q : RegS} (h : StaysR r n) (h' : StaysR n q) : StaysR r q := by
  refine ⟨h'.1, Int.le_trans h.2.1 h'.2.1, ?_⟩
  have h2 := congrArg (List.take r.com.toNat) h'.2.2
  rw [List.take_take, List.take_take, Nat.min_eq_left (by have := h.2.1; omega)] at h2
  rw [h2, h.2.2]
theorem stays_apply {r a : RegS} {x : RecS} (h : applyR r x = some a) : StaysR r a := by
  have h1 := apply_stays h
  have hc := may_com (apply_may h)
  have hle : r.com.toNat ≤ keepsR r a := by
    unfold keepsR
    split <;> omega
  have h2 := congrArg (List.take r.com.toNat) h1.2.2.2.2.2
  rw [List.take_take, List.take_take, Nat.min_eq_left hle] at h2
  exact ⟨h1.1, h1.2.2.2.1, h2⟩
theorem stays_applied (S : List RecS) (r : RegS) (h : mayR r = true) : StaysR r (appliedS r S) := by
  induction S generalizing r with
  | nil => exact stays_refl h
  | cons x S ih =>
    show StaysR r (appliedS ((applyR r x).getD r) S)
    cases hA : applyR r x with
    | none => exact ih r h
    | some a => exact stays_trans (stays_apply hA) (ih a (stays_apply hA).1)
/-- Mail that promises, or acknowledges, is of an epoch that may be. -/
def KindOk (r : RegS) (m y : MailS) : Prop := (y.kind = 2 ∨ y.kind = 5) → ¬ m.epoch < r.prom ∧ y.to = m.from_ ∧ y.from_ = m.to ∧ y.stamp = m.stamp
theorem take_kinds (r : RegS) (may : Bool) (m : MailS) : ∀ y ∈ (takeS r may m).back, KindOk r m y := by
  intro y hy
  unfold takeS at hy
  split at hy
  case isFalse => cases hy
  split at hy
  · unfold prepS at hy
    split at hy
    case isTrue h =>
      rw [List.mem_singleton.1 hy]
      exact fun _ => ⟨by omega, rfl, rfl, rfl⟩
    case isFalse h =>
      rw [List.mem_singleton.1 hy]
      intro h
      rcases h with h | h <;> cases h
  · split at hy
    · unfold layS at hy
      split at hy
      · rw [List.mem_singleton.1 hy]
        intro h
        rcases h with h | h <;> cases h
      case isFalse h1 =>
      split at hy
      · rw [List.mem_singleton.1 hy]
        intro h
        rcases h with h | h <;> cases h
      split at hy
      · cases hy
      · rw [List.mem_singleton.1 hy]
        exact fun _ => ⟨h1, rfl, rfl, rfl⟩
    · split at hy <;> cases hy
theorem take_below (r : RegS) (may : Bool) (m : MailS) (h : m.epoch < r.prom) : (takeS r may m).recs = [] := by
  unfold takeS
  split
  case isFalse => rfl
  split
  · unfold prepS
    rw [if_neg (by omega)]
  · split
    · unfold layS
      rw [if_pos h]
    · split <;> rfl
theorem take_ents (r : RegS) (may : Bool) (m : MailS) : ∀ y ∈ (takeS r may m).recs, y.ents.length ≤ r.log.length + m.ents.length := by
  intro y hy
  unfold takeS at hy
  split at hy
  case isFalse => cases hy
  split at hy
  · unfold prepS at hy
    split at hy
    · rw [List.mem_singleton.1 hy]; simp [recP]
    · cases hy
  · split at hy
    · unfold layS at hy
      split at hy
      · cases hy
      split at hy
      · cases hy
      split at hy
      · cases hy
      case h_2 l q hg =>
        rcases List.mem_append.1 hy with h | h
        · unfold grownS at hg
          split at hg
          · split at hg
            · cases hg; cases h
            · split at hg
              · cases hA : applyR r (recV m r.log.length ((joinM r m).drop r.log.length)) with
                | none => rw [hA] at hg; cases hg
                | some a =>
                  rw [hA] at hg
                  cases hg
                  rw [List.mem_singleton.1 h]
                  show ((joinM r m).drop r.log.length).length ≤ _
                  unfold joinM
                  rw [List.length_drop, List.length_append, List.length_take]
                  omega
              · cases hg
          · cases hA : applyR r (recV m m.base m.ents) with
            | none => rw [hA] at hg; cases hg
            | some a =>
              rw [hA] at hg
              cases hg
              rw [List.mem_singleton.1 h]
              show m.ents.length ≤ _
              omega
        · unfold comS at h
          split at h
          · rw [List.mem_singleton.1 h]; simp [recC]
          · cases h
    · split at hy <;> cases hy
theorem take_few (r : RegS) (may : Bool) (m : MailS) : (takeS r may m).recs.length ≤ 2 ∧ (takeS r may m).back.length ≤ 1 := by
  unfold takeS
  split
  case isFalse => exact ⟨by simp [nothing], by simp [nothing]⟩
  split
  · unfold prepS
    split <;> exact ⟨by simp, by simp⟩
  · split
    · unfold layS
      split
      · exact ⟨by simp, by simp⟩
      split
      · exact ⟨by simp, by simp⟩
      split
      · exact ⟨by simp [nothing], by simp [nothing]⟩
      case h_2 l q hg =>
        have h1 := grown_few hg
        have h2 : (comS q m).length ≤ 1 := by unfold comS; split <;> simp
        exact ⟨by show (l ++ comS q m).length ≤ 2; rw [List.length_append]; omega, by simp⟩
    · split <;> exact ⟨by simp [nothing], by simp [nothing]⟩
theorem same_sl (l m : List Ent) (sl sm : SlcE) (w : World) (hl : LogAt w w.heap.size sl l) (hm : LogAt w w.heap.size sm m) (h : l = m) :
    Calls Try.prog 22 #[.slice sl.1 sl.2.1 sl.2.2, .slice sm.1 sm.2.1 sm.2.2] w fun e w' => e = .returned (.bool true) ∧ Below w.heap.size w w' := by
  subst h
  obtain ⟨A, n, c⟩ := sl
  obtain ⟨B, k, d⟩ := sm
  obtain rfl : n = l.length := hl.1
  obtain rfl : k = l.length := hm.1
  have hs := same_any l l A B c d w hl.2.2.2 hm.2.2.2 (Nat.le_trans hl.2.1 hl.2.2.1) (Nat.le_trans hm.2.1 hm.2.2.1)
  rw [decide_eq_true rfl] at hs
  exact hs
/-- Mail of stream 1. -/
def st1 (x : MailV) : MailV := ⟨{ x.m with stream := 1 }, x.es, x.o, x.an⟩
theorem st1_set (x : MailV) : (mailv x).set 3 (.int .i64 1) = mailv (st1 x) := rfl
/-- Between two pieces of mail: the register, the book. -/
def RfI (w W : World) (gr : Nat) (r : RegS) (s : SlcE) (b m n : Nat) (g0 : Int) (G : Int → Option (Int × Int)) : Prop :=
  Below w.heap.size w W ∧ Blk W gr 37 (rgv r s) ∧ LogAt W W.heap.size s r.log ∧ Bk W b m n g0 G ∧ w.heap.size ≤ m ∧ w.heap.size ≤ gr
theorem RfI.keep {w W W' : World} {gr : Nat} {r : RegS} {s : SlcE} {b m n : Nat} {g0 : Int} {G : Int → Option (Int × Int)} (h : RfI w W gr r s b m n g0 G) (hb : Below W.heap.size W W') : RfI w W' gr r s b m n g0 G :=
  ⟨below_trans h.1 hb h.1.size, h.2.1.keep hb, h.2.2.1.keep hb, h.2.2.2.1.below hb, h.2.2.2.2⟩
theorem RfI.take {w W W' : World} {gr : Nat} {r : RegS} {s : SlcE} {b m n n' : Nat} {g0 : Int} {G G' : Int → Option (Int × Int)} (h : RfI w W gr r s b m n g0 G) (hB : Bk W' b m n' g0 G') (hK : Kept W W' (some m) none) : RfI w W' gr r s b m n' g0 G' :=
  ⟨h.1.trans (hK.below (B := w.heap.size) (fun k e => by cases e; exact h.2.2.2.2.1) (fun k e => by cases e) h.1.size), hK.blk h.2.1 (fun e => h.2.2.2.1.notBlk h.2.1 (Option.some.inj e)) (by simp), h.2.2.1.turned h.2.2.2.1 hK, hB, h.2.2.2.2⟩
theorem Bk.other {w w' : World} {b m n g : Nat} {gr : Int} {G : Int → Option (Int × Int)} {T : TypeId} {cs : List Value} (h : Bk w b m n gr G) (hZ : Blk w g T cs) (hT : ∃ z, cs[0]? = some (.int .i64 z)) (hg : w.grownBy w' (some g)) : Bk w' b m n gr G :=
  h.kept hg (fun e => by
    have h2 := h.1
    obtain ⟨z, hz⟩ := hT
    cases e
    rw [hZ.cell, hz] at h2
    cases h2) (fun e => h.notBlk hZ (Option.some.inj e).symm)
/-- The register overwritten. -/
theorem RfI.put {w W W' : World} {gr : Nat} {r q : RegS} {s s' : SlcE} {b m n : Nat} {g0 : Int} {G : Int → Option (Int × Int)} (h : RfI w W gr r s b m n g0 G) (hq : LogAt W W.heap.size s' q.log) (hB : Blk W' gr 37 (rgv q s')) (hg : W.grownBy W' (some gr)) : RfI w W' gr q s' b m n g0 G :=
  ⟨h.1.trans (below_grown hg h.2.2.2.2.2 h.1.size), hB, hq.stored h.2.1 (by simp [rgv]) hg, h.2.2.2.1.other h.2.1 ⟨_, rfl⟩ hg, h.2.2.2.2⟩
end Go.Proofs.Ytdphfhenjndkkaa

set_option linter.unusedSimpArgs false
set_option linter.unusedVariables false
set_option maxRecDepth 100000
namespace Go.Proofs.Ytdphfhenjndkkaa
open Go Go.RowKit Go.Sq Go.Wd Go.Arch

/-- Mail of which no more is handed in than is looked at. -/
def Few (l : List MailV) : Prop := l.length ≤ 60 ∧ ∀ x ∈ l, x.m.ents.length ≤ 100
def Bey19 (F : Prop) (w : World) (e : Ending) (w' : World) : Prop := ∃ y, e = .returned (.bool y) ∧ (y = false → F) ∧ Below w.heap.size w w'

set_option maxHeartbeats 2000000 in
theorem beyond19_any (l : List MailV) (A : Option Addr) (c : Nat) (w : World) (hl : Mails w w.heap.size A l) (hll : l.length ≤ 9223372036854775807) :
    Calls Try.prog 10 #[.slice A l.length c] w fun e w' => Bey19 (Few l) w e w' := by
  have HH := Lib.hid hl
  have hz := Below.refl w.heap.size w
  clear hl
  by_cases h2 : 60 < l.length
  · have h2' : (60 : Int) < (l.length : Int) := by omega
    go_enter Try.func10, Try.ntmps10
    go_wp2_with fail
    go_ret
    exact ⟨true, rfl, by simp, hz⟩
  have h2' : ¬ (60 : Int) < (l.length : Int) := by omega
  go_enter Try.func10, Try.ntmps10
  go_wp2_with fail
  go_loopg [3] l.length (fun q i wr => ∃ j : Nat, q = l.length - j ∧ j ≤ l.length ∧ i = .int .i64 j ∧ Below w.heap.size w wr ∧ ∀ x ∈ l.take j, x.m.ents.length ≤ 100)
  case atStart => exact ⟨0, rfl, by omega, rfl, hz, by simp⟩
  case round =>
    clear hz
    obtain ⟨j, hq, hj, rfl, hwr, hno⟩ := hrel
    have AA : Aside (gk = l.length - j ∧ ∀ x ∈ l.take j, x.m.ents.length ≤ 100) := ⟨hq, hno⟩
    clear hq hno
    by_cases hlt : j < l.length
    · have j0 : (0 : Int) ≤ (j : Int) := by omega
      have j1 : (j : Int) < (l.length : Int) := by omega
      obtain ⟨b1, o1, x, rfl, hx, _, FA, hLx⟩ := HH.out.at_ hlt
      have hn : x.es.2.1 = x.m.ents.length := hLx.out.1
      have c9 : wr.cell? ⟨b1, o1 + j * 18 + 9, none⟩ = some (.slice x.es.1 x.es.2.1 x.es.2.2) := FA wr hwr 9 (by omega)
      rw [hn] at c9
      clear FA hn
      by_cases h3 : 100 < x.m.ents.length
      · have h3' : (100 : Int) < (x.m.ents.length : Int) := by omega
        go_wp2_with fail
        go_ret
        exact ⟨true, rfl, by simp, hwr⟩
      · have h3' : ¬ (100 : Int) < (x.m.ents.length : Int) := by omega
        go_wp2_with fail
        go_roundg (l.length - (j + 1))
        case measure => have hkk := AA.out.1; omega
        case rel =>
          refine ⟨j + 1, rfl, by omega, by go_num, hwr, fun z hz => ?_⟩
          rw [List.take_add_one, hx.out] at hz
          rcases List.mem_append.1 hz with hz | hz
          · exact AA.out.2 z hz
          · obtain rfl : z = x := by simpa using hz
            omega
    · obtain rfl : j = l.length := by omega
      have hfit : Hid (Few l) := Lib.hid ⟨by omega, by have := AA.out.2; rwa [List.take_length] at this⟩
      have j1 : ¬ (l.length : Int) < (l.length : Int) := by omega
      go_wp2_with fail
      go_ret
      exact ⟨false, rfl, fun _ => hfit.out, hwr⟩
end Go.Proofs.Ytdphfhenjndkkaa

set_option linter.unusedSimpArgs false
set_option linter.unusedVariables false
set_option maxRecDepth 100000
namespace Go.Sq
open Go Go.ChangeShapes Go.WideShapes Go.RowKit Go.Deep
section
variable {H : Type} {enc : TypeId × Value → H} {P : Program} {w : World} {base : Nat} {spare : Nat → Bool} {held : Bool}

theorem single_at {cs : List Value} {j : Nat} (h : j < cs.length) : (cs.drop j).take 1 = [cs[j]] := by
  rw [List.drop_eq_getElem_cons h]; rfl

/-- The cells of a struct, field by field. -/
theorem cells_fields {t : TypeId} {fs : Array Field} {fuel : Nat} {l : List Value} {x : DataW H × List MemPlace} (hs : P.underlying t = some (.struct fs)) (hone : oneCellFields P fs = true)
    (hC : P.cellsOf t = fs.size) (h : DataW.trod enc P w base spare held fuel t l = some x) :
    l.length = fs.size ∧ ∃ n : Nat, ∀ (j : Nat) (f : Field), fs[j]? = some f → ∃ (c : Value) (y : DataW H × List MemPlace), l[j]? = some c ∧ DataW.trod enc P w base spare held n f.type [c] = some y := by
  obtain ⟨xs, n, _, hx, hl, hlen, hg⟩ := DataW.trod_struct hs h
  rw [hC] at hl
  refine ⟨hl, n, fun j f hj => ?_⟩
  obtain ⟨ho, hk⟩ := hone_of hone j f hj
  have hjl : j < fs.size := (Array.getElem?_eq_some_iff.1 hj).1
  have h1 := hg j f hj
  rw [ho, hk] at h1
  rw [single_at (by omega)] at h1
  have hxj : j < xs.length := by omega
  exact ⟨_, xs[j], List.getElem?_eq_getElem (by omega), by rw [h1]; exact List.getElem?_eq_getElem hxj⟩

/-- An array by value: its cells, element by element. -/
theorem open_array {r : Reach} {b0 : Nat} {t e : TypeId} {n : Nat} {v : Value} {d : DataW H} {p : List MemPlace} (ht : P.underlying t = some (.array n e)) (hv : Value.okWide P w r b0 t v)
    (h : DataW.Trod enc P w base spare held t v d p) :
    ∃ (l : List Value) (m : Nat), v = .agg l.toArray ∧ l.length = P.cellsOf t ∧ ∀ i, i < n → ∃ y, DataW.trod enc P w base spare held m e ((l.drop (i * P.cellsOf e)).take (P.cellsOf e)) = some y := by
  simp only [Value.okWide, ht] at hv
  obtain ⟨⟨l⟩, rfl, hsz, _⟩ := hv
  obtain ⟨fuel, hf⟩ := h
  obtain ⟨xs, m, _, _, hl, hlen, hg⟩ := Go.DataW.trod_array ht hf
  refine ⟨l, m, rfl, hsz, fun i hi => ?_⟩
  have h1 := hg i hi
  have hxi : i < xs.length := by omega
  simp only [Value.cells] at h1
  exact ⟨xs[i], by rw [h1]; exact List.getElem?_eq_getElem hxi⟩

theorem add_none (b off n : Nat) : (⟨b, off, none⟩ : Addr).add n = ⟨b, off + n, none⟩ := by
  unfold Addr.add
  by_cases h : n = 0 <;> simp [h]
theorem add_block (a : Addr) (n : Nat) : (a.add n).block = a.block := by
  unfold Addr.add
  by_cases h : n = 0 <;> simp [h]

/-- A slice of structs: what each cell of its elements holds. -/
theorem open_rows {r : Reach} {b0 : Nat} {t e : TypeId} {fs : Array Field} {v : Value} {d : DataW H} {p : List MemPlace} (ht : P.underlying t = some (.slice e)) (hs : P.underlying e = some (.struct fs))
    (hone : oneCellFields P fs = true) (hC : P.cellsOf e = fs.size) (hpos : 0 < fs.size) (hv : Value.okWide P w r b0 t v) (h : DataW.Trod enc P w base spare held t v d p) :
    ∃ (a : Option Addr) (len cap : Nat), v = .slice a len cap ∧ len ≤ cap ∧ cap ≤ maxLen ∧ ∀ i, i < len → ∃ b off, a = some ⟨b, off, none⟩ ∧ b < w.heap.size ∧
      ∃ n : Nat, ∀ (j : Nat) (f : Field), fs[j]? = some f → ∃ (c : Value) (y : DataW H × List MemPlace), w.cell? ⟨b, off + i * fs.size + j, none⟩ = some c ∧ DataW.trod enc P w base spare held n f.type [c] = some y := by
  obtain ⟨a0, len, cap, rfl⟩ := okWide_slice ht hv
  obtain ⟨fuel, hf⟩ := h
  rcases open_slice ht hf with ⟨hcs, _⟩ | ⟨a, l, c, m, n, D, Pl, hcs, _, hl, hm, hmm, _, hi⟩
  · simp [Value.cells] at hcs
    obtain ⟨rfl, rfl, rfl⟩ := hcs
    exact ⟨none, 0, 0, rfl, Nat.le_refl _, by simp [maxLen], fun i hi => by omega⟩
  · simp [Value.cells] at hcs
    obtain ⟨rfl, rfl, rfl⟩ := hcs
    refine ⟨some a, len, cap, rfl, hl, hm, fun i hil => ?_⟩
    have hsp : a.spot = none := by
      obtain ⟨cs', hc, _⟩ := hi 0 (by rw [hmm]; split <;> omega)
      rw [hC] at hc
      obtain ⟨_, hcl, hat⟩ := World.cells?_some hc
      have h0 := hat 0 hpos
      rw [List.getElem?_eq_getElem (show 0 < cs'.length by omega)] at h0
      simpa [Addr.add] using World.cell?_spot h0
    have him : i < m := by rw [hmm]; split <;> omega
    obtain ⟨cs', hc, ht'⟩ := hi i him
    rw [hC] at hc
    obtain ⟨_, n', hg⟩ := cells_fields hs hone hC ht'
    obtain ⟨_, hcl, hat⟩ := World.cells?_some hc
    have h0 := hat 0 hpos
    rw [List.getElem?_eq_getElem (show 0 < cs'.length by omega)] at h0
    have hbl := World.block_lt_of_cell? _ _ h0
    rw [add_block, add_block] at hbl
    obtain ⟨b, off, spot⟩ := a
    obtain rfl : spot = none := hsp
    refine ⟨b, off, rfl, hbl, n', fun j f hj => ?_⟩
    have hjl : j < fs.size := (Array.getElem?_eq_some_iff.1 hj).1
    obtain ⟨c, y, h1, h2⟩ := hg j f hj
    refine ⟨c, y, ?_, h2⟩
    have h3 := hat j hjl
    rw [h1, add_none, add_none] at h3
    exact h3

/-- The value is an aggregate of as many values as there are fields; each reads by its field's type. -/
theorem open_fields {r : Reach} {b0 : Nat} {t : TypeId} {fs : Array Field} {v : Value} {d : DataW H} {p : List MemPlace} (hs : P.underlying t = some (.struct fs)) (hone : oneCellFields P fs = true)
    (hC : P.cellsOf t = fs.size) (hv : Value.okWide P w r b0 t v) (h : DataW.Trod enc P w base spare held t v d p) :
    ∃ (cs : List Value) (n : Nat), v = .agg cs.toArray ∧ cs.length = fs.size ∧
      ∀ (j : Nat) (f : Field), fs[j]? = some f → ∃ (c : Value) (y : DataW H × List MemPlace), cs[j]? = some c ∧ DataW.trod enc P w base spare held n f.type [c] = some y := by
  obtain ⟨⟨l⟩, rfl, hsz⟩ := okWide_struct hs hv
  obtain ⟨fuel, hf⟩ := h
  obtain ⟨xs, n, _, hx, _, hlen, hg⟩ := DataW.trod_struct hs hf
  have hl : l.length = fs.size := by rw [← hC]; exact hsz
  refine ⟨l, n, rfl, hl, fun j f hj => ?_⟩
  obtain ⟨ho, hk⟩ := hone_of hone j f hj
  have hjl : j < fs.size := (Array.getElem?_eq_some_iff.1 hj).1
  have h1 := hg j f hj
  rw [ho, hk] at h1
  simp only [Value.cells] at h1
  rw [single_at (by omega)] at h1
  have hxj : j < xs.length := by omega
  exact ⟨_, xs[j], List.getElem?_eq_getElem (by omega), by rw [h1]; exact List.getElem?_eq_getElem hxj⟩
/-- An array of numbers by value. -/
theorem open_nums {r : Reach} {b0 : Nat} {t e : TypeId} {n : Nat} {k : IntKind} {v : Value} {d : DataW H} {p : List MemPlace} (ht : P.underlying t = some (.array n e)) (he : P.underlying e = some (.int k))
    (hC : P.cellsOf e = 1) (hCt : P.cellsOf t = n) (hv : Value.okWide P w r b0 t v) (h : DataW.Trod enc P w base spare held t v d p) :
    ∃ zs : List Int, zs.length = n ∧ v = .agg (zs.map (Value.int k)).toArray ∧ ∀ z ∈ zs, (Lit.int k z).wf = true := by
  obtain ⟨l, m, rfl, hl, hf⟩ := open_array ht hv h
  rw [hCt] at hl
  rw [hC] at hf
  have key : ∀ (l : List Value), (∀ i, (hi : i < l.length) → ∃ z, l[i] = .int k z ∧ (Lit.int k z).wf = true) → ∃ zs : List Int, l = zs.map (Value.int k) ∧ ∀ z ∈ zs, (Lit.int k z).wf = true := by
    intro l
    induction l with
    | nil => intro _; exact ⟨[], rfl, by simp⟩
    | cons x l ih =>
      intro hh
      obtain ⟨z, hz, hw⟩ := hh 0 (by simp)
      obtain ⟨zs, hzs, hws⟩ := ih (fun i hi => by have := hh (i + 1) (by simp; omega); simpa using this)
      refine ⟨z :: zs, by simp at hz; simp [hz, hzs], ?_⟩
      intro y hy
      rcases List.mem_cons.1 hy with rfl | hy
      · exact hw
      · exact hws y hy
  obtain ⟨zs, hzs, hws⟩ := key l (fun i hi => by
    obtain ⟨y, hy⟩ := hf i (by omega)
    rw [Nat.mul_one, single_at hi] at hy
    obtain ⟨z, hcz, _, hw⟩ := DataW.trod_int he hy
    exact ⟨z, by simpa using hcz, hw⟩)
  exact ⟨zs, by rw [hzs] at hl; simpa using hl, by rw [hzs], hws⟩
end
theorem wf_u8 {a : Int} (h : (Lit.int .u8 a).wf = true) : 0 ≤ a ∧ a ≤ 255 := by
  simp only [Lit.wf, Bool.and_eq_true, decide_eq_true_eq] at h
  exact h
theorem wf_u16 {a : Int} (h : (Lit.int .u16 a).wf = true) : 0 ≤ a ∧ a ≤ 65535 := by
  simp only [Lit.wf, Bool.and_eq_true, decide_eq_true_eq] at h
  exact h
theorem wf_i64 {a : Int} (h : (Lit.int .i64 a).wf = true) : -9223372036854775808 ≤ a ∧ a ≤ 9223372036854775807 := by
  simp only [Lit.wf, Bool.and_eq_true, decide_eq_true_eq] at h
  exact h
theorem i64_wf {a : Int} (h : -9223372036854775808 ≤ a) (h2 : a ≤ 9223372036854775807) : (Lit.int .i64 a).wf = true := by
  simp only [Lit.wf, Bool.and_eq_true, decide_eq_true_eq]
  exact ⟨h, h2⟩
theorem len1 {α : Type} {l : List α} (h : l.length = 1) : ∃ a0, l = [a0] := by
  match l, h with
  | [a0], _ => exact ⟨a0, rfl⟩
theorem len2 {α : Type} {l : List α} (h : l.length = 2) : ∃ a0 a1, l = [a0, a1] := by
  match l, h with
  | [a0, a1], _ => exact ⟨a0, a1, rfl⟩
theorem len3 {α : Type} {l : List α} (h : l.length = 3) : ∃ a0 a1 a2, l = [a0, a1, a2] := by
  match l, h with
  | [a0, a1, a2], _ => exact ⟨a0, a1, a2, rfl⟩
theorem len4 {α : Type} {l : List α} (h : l.length = 4) : ∃ a0 a1 a2 a3, l = [a0, a1, a2, a3] := by
  match l, h with
  | [a0, a1, a2, a3], _ => exact ⟨a0, a1, a2, a3, rfl⟩
theorem len5 {α : Type} {l : List α} (h : l.length = 5) : ∃ a0 a1 a2 a3 a4, l = [a0, a1, a2, a3, a4] := by
  match l, h with
  | [a0, a1, a2, a3, a4], _ => exact ⟨a0, a1, a2, a3, a4, rfl⟩
theorem len6 {α : Type} {l : List α} (h : l.length = 6) : ∃ a0 a1 a2 a3 a4 a5, l = [a0, a1, a2, a3, a4, a5] := by
  match l, h with
  | [a0, a1, a2, a3, a4, a5], _ => exact ⟨a0, a1, a2, a3, a4, a5, rfl⟩
theorem len7 {α : Type} {l : List α} (h : l.length = 7) : ∃ a0 a1 a2 a3 a4 a5 a6, l = [a0, a1, a2, a3, a4, a5, a6] := by
  match l, h with
  | [a0, a1, a2, a3, a4, a5, a6], _ => exact ⟨a0, a1, a2, a3, a4, a5, a6, rfl⟩
theorem len8 {α : Type} {l : List α} (h : l.length = 8) : ∃ a0 a1 a2 a3 a4 a5 a6 a7, l = [a0, a1, a2, a3, a4, a5, a6, a7] := by
  match l, h with
  | [a0, a1, a2, a3, a4, a5, a6, a7], _ => exact ⟨a0, a1, a2, a3, a4, a5, a6, a7, rfl⟩
end Go.Sq

set_option linter.unusedSimpArgs false
set_option linter.unusedVariables false
set_option maxRecDepth 100000
namespace Go.Sq
open Go Go.ChangeShapes Go.WideShapes Go.RowKit Go.Deep
theorem list_of {α : Type} {p : Nat → α → Prop} : ∀ (n : Nat), (∀ i, i < n → ∃ x, p i x) → ∃ l : List α, l.length = n ∧ ∀ i x, l[i]? = some x → p i x
  | 0, _ => ⟨[], rfl, fun i x h => by simp at h⟩
  | n + 1, h => by
    obtain ⟨l, hl, hp⟩ := list_of n (fun i hi => h i (by omega))
    obtain ⟨x, hx⟩ := h n (by omega)
    refine ⟨l ++ [x], by simp [hl], fun i y hy => ?_⟩
    rcases Nat.lt_or_ge i n with hi | hi
    · rw [List.getElem?_append_left (by omega)] at hy
      exact hp i y hy
    · have hlt := (List.getElem?_eq_some_iff.1 hy).1
      have : i = n := by simp at hlt; omega
      subst this
      rw [List.getElem?_append_right (by omega), hl] at hy
      simp at hy
      subst hy
      exact hx
section
variable {H : Type} {enc : TypeId × Value → H} {P : Program} {w : World} {base : Nat} {spare : Nat → Bool} {held : Bool}

theorem open_rows_any {r : Reach} {b0 : Nat} {t e : TypeId} {C : Nat} {v : Value} {d : DataW H} {p : List MemPlace} (ht : P.underlying t = some (.slice e))
    (hC : P.cellsOf e = C) (hpos : 0 < C) (hv : Value.okWide P w r b0 t v) (h : DataW.Trod enc P w base spare held t v d p) :
    ∃ (a : Option Addr) (len cap : Nat), v = .slice a len cap ∧ len ≤ cap ∧ cap ≤ maxLen ∧ (0 < len → ∃ b off, a = some ⟨b, off, none⟩ ∧ b < w.heap.size ∧ ∀ i, i < len →
      ∃ (cs : List Value) (n : Nat) (y : DataW H × List MemPlace), cs.length = C ∧ (∀ k, k < C → w.cell? ⟨b, off + i * C + k, none⟩ = cs[k]?) ∧ DataW.trod enc P w base spare held n e cs = some y) := by
  obtain ⟨a0, len, cap, rfl⟩ := okWide_slice ht hv
  obtain ⟨fuel, hf⟩ := h
  rcases open_slice ht hf with ⟨hcs, _⟩ | ⟨a, l, c, m, n, D, Pl, hcs, _, hl, hm, hmm, _, hi⟩
  · simp [Value.cells] at hcs
    obtain ⟨rfl, rfl, rfl⟩ := hcs
    exact ⟨none, 0, 0, rfl, Nat.le_refl _, by simp [maxLen], fun h => absurd h (by omega)⟩
  · simp [Value.cells] at hcs
    obtain ⟨rfl, rfl, rfl⟩ := hcs
    refine ⟨some a, len, cap, rfl, hl, hm, fun hlen => ?_⟩
    obtain ⟨b, off, rfl, hbl⟩ : ∃ b off, a = ⟨b, off, none⟩ ∧ b < w.heap.size := by
      obtain ⟨cs', hc, _⟩ := hi 0 (by rw [hmm]; split <;> omega)
      rw [hC] at hc
      obtain ⟨_, hcl, hat⟩ := World.cells?_some hc
      have h0 := hat 0 hpos
      rw [List.getElem?_eq_getElem (show 0 < cs'.length by omega)] at h0
      have hsp : a.spot = none := by simpa [Addr.add] using World.cell?_spot h0
      have hbl := World.block_lt_of_cell? _ _ h0
      rw [add_block, add_block] at hbl
      obtain ⟨b, off, spot⟩ := a
      obtain rfl : spot = none := hsp
      exact ⟨b, off, rfl, hbl⟩
    refine ⟨b, off, rfl, hbl, fun i hil => ?_⟩
    obtain ⟨cs', hc, ht'⟩ := hi i (by rw [hmm]; split <;> omega)
    rw [hC] at hc
    obtain ⟨_, hcl, hat⟩ := World.cells?_some hc
    refine ⟨cs', n, _, hcl, fun k hk => ?_, ht'⟩
    have h3 := hat k hk
    rw [add_none, add_none] at h3
    exact h3

/-- A struct of five numbers. -/
theorem five_of {n : Nat} {t : TypeId} {fs : Array Field} {l : List Value} {x : DataW H × List MemPlace} {ti : TypeId} (hs : P.underlying t = some (.struct fs)) (hone : oneCellFields P fs = true)
    (hC : P.cellsOf t = fs.size) (h5 : fs.size = 5) (hty : ∀ (j : Nat) (f : Field), fs[j]? = some f → P.underlying f.type = some (.int .i64)) (h : DataW.trod enc P w base spare held n t l = some x) :
    ∃ a b c d e : Int, l = [.int .i64 a, .int .i64 b, .int .i64 c, .int .i64 d, .int .i64 e] ∧ (Lit.int .i64 a).wf = true ∧ (Lit.int .i64 b).wf = true ∧ (Lit.int .i64 c).wf = true ∧ (Lit.int .i64 d).wf = true ∧ (Lit.int .i64 e).wf = true := by
  obtain ⟨hl, m, hf⟩ := cells_fields hs hone hC h
  rw [h5] at hl
  obtain ⟨c0, c1, c2, c3, c4, rfl⟩ := len5 hl
  have key : ∀ j c, j < 5 → [c0, c1, c2, c3, c4][j]? = some c → ∃ z, c = .int .i64 z ∧ (Lit.int .i64 z).wf = true := by
    intro j c hj hc
    have hj' : j < fs.size := by omega
    obtain ⟨c', y, h1, h2⟩ := hf j _ (Array.getElem?_eq_getElem hj')
    rw [hc] at h1
    cases h1
    obtain ⟨z, hz, _, hw⟩ := DataW.trod_int (hty j _ (Array.getElem?_eq_getElem hj')) h2
    exact ⟨z, by simpa using hz, hw⟩
  obtain ⟨a, rfl, wa⟩ := key 0 c0 (by omega) rfl
  obtain ⟨b, rfl, wb⟩ := key 1 c1 (by omega) rfl
  obtain ⟨c, rfl, wc⟩ := key 2 c2 (by omega) rfl
  obtain ⟨d, rfl, wd⟩ := key 3 c3 (by omega) rfl
  obtain ⟨e, rfl, we⟩ := key 4 c4 (by omega) rfl
  exact ⟨a, b, c, d, e, rfl, wa, wb, wc, wd, we⟩
end
end Go.Sq

namespace Go.Proofs.Ytdphfhenjndkkaa
open Go Go.ChangeShapes Go.WideShapes Go.RowKit Go.Deep Go.Sq
section
variable {H : Type} {enc : TypeId × Value → H} {w : World} {base : Nat} {spare : Nat → Bool} {held : Bool}

def wfEnt (e : Ent) : Prop := (Lit.int .i64 e.1).wf = true ∧ (Lit.int .i64 e.2.1).wf = true ∧ (Lit.int .i64 e.2.2.1).wf = true ∧ (Lit.int .i64 e.2.2.2.1).wf = true ∧ (Lit.int .i64 e.2.2.2.2.1).wf = true ∧ (Lit.int .i64 e.2.2.2.2.2).wf = true

theorem open_ent {n : Nat} {cs : List Value} {y : DataW H × List MemPlace} (h : DataW.trod enc Try.prog w base spare held n 64 cs = some y) : ∃ e : Ent, cs = vals e ∧ wfEnt e := by
  have hC : Try.prog.cellsOf 64 = 6 := by kernel_rfl
  have hCo : Try.prog.cellsOf 39 = 5 := by kernel_rfl
  have hCi : Try.prog.cellsOf 3 = 1 := by kernel_rfl
  obtain ⟨xs, m, _, _, hl, hlen, hg⟩ := DataW.trod_struct Try.underlying64 h
  rw [hC] at hl
  obtain ⟨c0, c1, c2, c3, c4, c5, rfl⟩ := len6 hl
  have h0 := hg 0 _ rfl
  have h1 := hg 1 _ rfl
  simp only [List.getElem_toArray, List.getElem_cons_zero, List.getElem_cons_succ] at h0 h1
  rw [hCi] at h0
  rw [hCo] at h1
  simp only [List.drop_zero, List.take_succ_cons, List.take_zero, List.drop_succ_cons] at h0 h1
  have hx : xs.length = 2 := hlen
  obtain ⟨x0, x1, rfl⟩ := len2 hx
  obtain ⟨z, hz, _, hw⟩ := DataW.trod_int Try.underlying3 h0
  obtain ⟨a, b, c, d, e, h5, wa, wb, wc, wd, we⟩ := five_of (ti := 3) Try.underlying39 (by kernel_rfl) (by kernel_rfl) rfl (by
    intro j f hf
    have hj : j < 5 := (Array.getElem?_eq_some_iff.1 hf).1
    obtain rfl | rfl | rfl | rfl | rfl : j = 0 ∨ j = 1 ∨ j = 2 ∨ j = 3 ∨ j = 4 := by omega
    all_goals
      cases hf
      exact Try.underlying3) h1
  cases hz
  cases h5
  exact ⟨(z, a, b, c, d, e), rfl, hw, wa, wb, wc, wd, we⟩

theorem open_ents {r : Reach} {b0 : Nat} {v : Value} {d : DataW H} {p : List MemPlace} (hv : Value.okWide Try.prog w r b0 35 v) (h : DataW.Trod enc Try.prog w base spare held 35 v d p) :
    ∃ (A : Option Addr) (l : List Ent) (c : Nat), v = .slice A l.length c ∧ l.length ≤ c ∧ c ≤ 9223372036854775807 ∧ Ents w w.heap.size A l ∧ ∀ e ∈ l, wfEnt e := by
  obtain ⟨A, len, cap, rfl, h1, h2, h3⟩ := open_rows_any Try.underlying35 (C := 6) (by kernel_rfl) (by omega) hv h
  have h2' : cap ≤ 9223372036854775807 := by simp only [maxLen] at h2; omega
  rcases Nat.eq_zero_or_pos len with h0 | h0
  · subst h0
    exact ⟨A, [], cap, rfl, h1, h2', Ents.nil, by simp⟩
  · obtain ⟨b, off, rfl, hb, hrow⟩ := h3 h0
    obtain ⟨l, hl, hp⟩ := list_of (p := fun i e => EntAt w b (off + i * 6) e ∧ wfEnt e) len (fun i hi => by
      obtain ⟨cs, n, y, hcl, hcell, ht⟩ := hrow i hi
      obtain ⟨e, rfl, hw⟩ := open_ent ht
      exact ⟨e, ⟨hcell 0 (by omega), hcell 1 (by omega), hcell 2 (by omega), hcell 3 (by omega), hcell 4 (by omega), hcell 5 (by omega)⟩, hw⟩)
    subst hl
    refine ⟨_, l, cap, rfl, h1, h2', fun _ => ⟨b, off, rfl, hb, fun i e he => (hp i e he).1⟩, fun e he => ?_⟩
    obtain ⟨i, hi⟩ := List.getElem?_of_mem he
    exact (hp i e hi).2
end
end Go.Proofs.Ytdphfhenjndkkaa

set_option linter.unusedSimpArgs false
set_option linter.unusedVariables false
set_option maxRecDepth 100000
namespace Go.Proofs.Ytdphfhenjndkkaa
open Go Go.ChangeShapes Go.WideShapes Go.RowKit Go.Sq Go.Wd Go.Deep

/-- These numbers stand at A, below block B. -/
def Nums (w : World) (B : Nat) (A : Option Addr) (k : IntKind) (l : List Int) : Prop :=
  0 < l.length → ∃ b off, A = some ⟨b, off, none⟩ ∧ b < B ∧ ∀ i x, l[i]? = some x → w.cell? ⟨b, off + i, none⟩ = some (.int k x)
theorem Nums.below {w w' : World} {B : Nat} {A : Option Addr} {k : IntKind} {l : List Int} (h : Nums w B A k l) (hb : Below B w w') : Nums w' B A k l := fun hl => by
  obtain ⟨b, off, ha, hB, hc⟩ := h hl
  exact ⟨b, off, ha, hB, fun i e he => (hb.cell (p := ⟨b, _, none⟩) hB).trans (hc i e he)⟩
theorem Nums.more {w : World} {B B' : Nat} {A : Option Addr} {k : IntKind} {l : List Int} (h : Nums w B A k l) (hB : B ≤ B') : Nums w B' A k l := fun hl => by
  obtain ⟨b, off, ha, hb, hc⟩ := h hl
  exact ⟨b, off, ha, by omega, hc⟩
/-- One of them. -/
theorem Nums.at_ {w : World} {B : Nat} {A : Option Addr} {k : IntKind} {l : List Int} (h : Nums w B A k l) {j : Nat} (hj : j < l.length) :
    ∃ b off x, A = some ⟨b, off, none⟩ ∧ Hid (l[j]? = some x) ∧ ∀ w', Below B w w' → w'.cell? ⟨b, off + j, none⟩ = some (.int k x) := by
  obtain ⟨b, off, ha, hB, hc⟩ := h (by omega)
  have he := List.getElem?_eq_getElem hj
  exact ⟨b, off, _, ha, Lib.hid he, fun w' hb => (hb.cell (p := ⟨b, _, none⟩) hB).trans (hc j _ he)⟩
section
variable {H : Type} {enc : TypeId × Value → H} {P : Program} {w : World} {base : Nat} {spare : Nat → Bool} {held : Bool}
theorem open_slice_nums {r : Reach} {b0 : Nat} {t e : TypeId} {k : IntKind} {v : Value} {d : DataW H} {p : List MemPlace} (ht : P.underlying t = some (.slice e)) (he : P.underlying e = some (.int k))
    (hC : P.cellsOf e = 1) (hv : Value.okWide P w r b0 t v) (h : DataW.Trod enc P w base spare held t v d p) :
    ∃ (A : Option Addr) (l : List Int) (c : Nat), v = .slice A l.length c ∧ l.length ≤ c ∧ c ≤ 9223372036854775807 ∧ Nums w w.heap.size A k l ∧ ∀ x ∈ l, (Lit.int k x).wf = true := by
  obtain ⟨A, len, cap, rfl, h1, h2, h3⟩ := open_rows_any ht (C := 1) hC (by omega) hv h
  have h2' : cap ≤ 9223372036854775807 := by simp only [maxLen] at h2; omega
  rcases Nat.eq_zero_or_pos len with h0 | h0
  · subst h0
    exact ⟨A, [], cap, rfl, h1, h2', fun h => absurd h (by simp), by simp⟩
  · obtain ⟨b, off, rfl, hb, hrow⟩ := h3 h0
    obtain ⟨l, hl, hp⟩ := list_of (p := fun i x => w.cell? ⟨b, off + i, none⟩ = some (.int k x) ∧ (Lit.int k x).wf = true) len (fun i hi => by
      obtain ⟨cs, n, y, hcl, hcell, ht⟩ := hrow i hi
      obtain ⟨z, hz, _, hw⟩ := DataW.trod_int he ht
      refine ⟨z, ?_, hw⟩
      have := hcell 0 (by omega)
      rw [hz] at this
      simpa using this)
    subst hl
    refine ⟨_, l, cap, rfl, h1, h2', fun _ => ⟨b, off, rfl, hb, fun i e he => (hp i e he).1⟩, fun e he => ?_⟩
    obtain ⟨i, hi⟩ := List.getElem?_of_mem he
    exact (hp i e hi).2
end
end Go.Proofs.Ytdphfhenjndkkaa

set_option linter.unusedSimpArgs false
set_option linter.unusedVariables false
set_option maxRecDepth 100000
namespace Go.Proofs.Ytdphfhenjndkkaa
open Go Go.RowKit Go.Sq Go.Wd Go.Arch Go.Im

set_option maxHeartbeats 16000000 in
theorem replicasRefuse_walk (l : List MailV) (A : Option Addr) (c : Nat) (ts : List Int) (At_ : Option Addr) (ct : Nat) (w : World) (hl : Mails w w.heap.size A l) (hn : l.length ≤ 9223372036854775807) (ht : Nums w w.heap.size At_ .u8 ts) (htn : ts.length ≤ 9223372036854775807) (ht8 : ∀ k ∈ ts, 0 ≤ k ∧ k ≤ 255) :
    Calls Try.prog 5 #[.slice A l.length c, .slice At_ ts.length ct] w fun e w' => e = .returned (.bool true) ∧ Below w.heap.size w w' := by
  have HE := Lib.hid (And.intro hl (And.intro ht ht8))
  clear hl ht ht8
  go_enter Try.func5, Try.ntmps5
  go_wp2_with fail
  refine (beyond19_any l A c w HE.out.1 hn).mono ?_
  rintro e w1 ⟨y, rfl, hfew, hb1⟩
  have H1 := Lib.hid hb1
  clear hb1
  cases y with
  | true =>
    clear hfew
    go_wp2_with fail
    refine (lives19_any _).mono ?_
    rintro e w2 ⟨rfl, hb⟩
    have hw2 := below_trans H1.out hb H1.out.size
    clear hb
    go_wp2_with fail
    go_ret
    exact ⟨rfl, hw2⟩
  | false =>
    have HF := Lib.hid (hfew rfl)
    clear hfew
    have hl60 := HF.out.1
    go_wp2_with fail
    refine (lnew_any 0 (by decide) false _).mono ?_
    rintro e w2 ⟨b, m, rfl, hB2, hb2, hbb, hbm⟩
    have hw2 := below_trans H1.out hb2 H1.out.size
    have ha := (Below.refl w2.heap.size w2).alloc (Nat.le_refl _) (.cells (rgv reg0 (none, 0, 0)).toArray 37)
    have hR0 : RfI w (w2.alloc (.cells (rgv reg0 (none, 0, 0)).toArray 37)) w2.heap.size reg0 (none, 0, 0) b m 0 0 (fun _ => none) :=
      ⟨below_trans hw2 ha hw2.size, Blk.new w2 _ _, LogAt.nil, hB2.below ha, by have := H1.out.size; omega, hw2.size⟩
    have HR0 := Lib.hid hR0
    clear hB2 hb2 hbb hbm hw2 ha hR0 H1
    go_wp2_with fail
    refine abs_code (fun W => RfI w W w2.heap.size reg0 (none, 0, 0) b m 0 0 (fun _ => none)) HR0.out ?_
    clear HR0
    intro w3 h3
    generalize w2.heap.size = gr at h3 ⊢
    have H3 := Lib.hid h3
    clear h3
    go_loopg [7, 8] l.length (fun q nw i wr => ∃ (j n : Nat) (nv : Int) (r : RegS) (s : SlcE) (G : Int → Option (Int × Int)), q = l.length - j ∧ j ≤ l.length ∧ nw = .int .i64 nv ∧ i = .int .i64 j ∧ (0 ≤ nv ∧ nv ≤ 255 * j) ∧ n ≤ j ∧ mayR r = true ∧ RfI w wr gr r s b m n 0 G)
    case atStart => exact ⟨0, 0, 0, reg0, (none, 0, 0), fun _ => none, rfl, by omega, rfl, rfl, by omega, by omega, may_reg0, H3.out⟩
    case round =>
      clear H3
      obtain ⟨j, n, nv, r, s, G, hq, hj, rfl, rfl, ⟨v0, v1⟩, hnj, hmr, hI⟩ := hrel
      have AA : Aside (gk = l.length - j ∧ n ≤ j) := ⟨hq, hnj⟩
      clear hq hnj
      obtain ⟨wo, rfl⟩ : ∃ wo, wo = wr := ⟨_, rfl⟩
      have HI := Lib.hid (And.intro hI hmr)
      clear hI hmr
      by_cases hlt : j < l.length
      · have j0 : (0 : Int) ≤ (j : Int) := by omega
        have j1 : (j : Int) < (l.length : Int) := by omega
        obtain ⟨b1, o1, x, rfl, hx, FA, HX⟩ := HE.out.1.range hlt
        have hx100 := Lib.hid (HF.out.2 x (List.mem_of_getElem? hx.out))
        have HFA := Lib.hid FA
        clear FA
        by_cases htk : j < ts.length
        case' pos =>
          have t1 : (j : Int) < (ts.length : Int) := by omega
          obtain ⟨b2, o2, k, rfl, hk, FT⟩ := HE.out.2.1.at_ htk
          have hkr := HE.out.2.2 k (List.mem_of_getElem? hk.out)
          have ck := FT _ HI.out.1.1
          have wk : IntKind.i64.wrap k = k := IntWalk.i64_in _ (by omega)
          have ws : IntKind.i64.wrap (nv + k) = nv + k := IntWalk.i64_in _ (by omega)
          have hv2 : ∃ nv2 : Int, nv + k = nv2 ∧ 0 ≤ nv2 ∧ nv2 ≤ 255 * ((j : Int) + 1) := ⟨_, rfl, by omega, by omega⟩
          clear FT hkr
        case' neg =>
          have t1 : ¬ (j : Int) < (ts.length : Int) := by omega
          have hv2 : ∃ nv2 : Int, nv = nv2 ∧ 0 ≤ nv2 ∧ nv2 ≤ 255 * ((j : Int) + 1) := ⟨_, rfl, by omega, by omega⟩
        all_goals
          obtain ⟨nv2, hvv, u0, u1⟩ := hv2
          have HV := Lib.hid hvv
          try clear hvv
          go_wp2_with ((with_reducible refine at_list ?_); (with_reducible refine cut_at 37 rfl ?_))
          refine Cut.go ?_
          try rw [HV.out]
          clear HV t1
          try clear ck wk ws
          go_wp2_with ((with_reducible refine at_list ?_); first | (with_reducible refine cut_at 39 rfl ?_) | (refine wpList_load_mid rfl 43 _ rfl _ _ rfl _ _ (HFA.out _ HI.out.1.1) Try.underlying43 rfl mail_info ?_) | (refine wpList_store_own rfl 43 _ _ rfl _ (mailv x) rfl rfl _ _ (Blk.new wo 43 (mailv backV0)) mail_info rfl (mail_one _) ?_; intro w4 B4 g4))
          refine Cut.go ?_
          have hb4 := below_new g4
          have c3 : w4.cell? ⟨wo.heap.size, 3, none⟩ = some (.int .i64 x.m.stream) := B4.cell 3
          have z3 : w4.frozen? ⟨wo.heap.size, 3, none⟩ = false := B4.frozen 3
          have hbx : Below wo.heap.size wo (w4.setCell ⟨wo.heap.size, 3, none⟩ (.int .i64 1)) := hb4.trans (below_grown (only_setCell (World.grownBy.refl w4 (some wo.heap.size)) (p := ⟨wo.heap.size, 3, none⟩) (.inl rfl) _) (Nat.le_refl _) hb4.size)
          have hI5 := HI.out.1.keep hbx
          have HJ := Lib.hid (show RfI w (w4.setCell ⟨wo.heap.size, 3, none⟩ (.int .i64 1)) gr r s b m n 0 G ∧ Blk (w4.setCell ⟨wo.heap.size, 3, none⟩ (.int .i64 1)) wo.heap.size 43 (mailv (st1 x)) ∧ LogAt (w4.setCell ⟨wo.heap.size, 3, none⟩ (.int .i64 1)) (w4.setCell ⟨wo.heap.size, 3, none⟩ (.int .i64 1)).heap.size (st1 x).es (st1 x).m.ents from
            ⟨hI5, by rw [← st1_set]; exact B4.set 3 _, (HX.out.below hI5.1).more hI5.1.size⟩)
          have HMR := Lib.hid HI.out.2
          have hnj := AA.out.2
          clear hb4 hbx hI5 B4 g4 HI
          go_wp2_with ((with_reducible refine at_list ?_); (with_reducible refine cut_at 41 rfl ?_))
          refine Cut.go ?_
          clear c3 z3
          refine abs_list (fun W => RfI w W gr r s b m n 0 G ∧ Blk W wo.heap.size 43 (mailv (st1 x)) ∧ LogAt W W.heap.size (st1 x).es (st1 x).m.ents) HJ.out ?_
          clear HJ
          intro w5 h5
          generalize wo.heap.size = gm at h5 ⊢
          obtain ⟨xx, hxx⟩ : ∃ xx, st1 x = xx := ⟨_, rfl⟩
          rw [hxx] at h5
          have hx1 : xx.m.ents.length ≤ 100 := by rw [← hxx]; exact hx100.out
          clear hxx
          have H5 := Lib.hid (And.intro h5 hx1)
          clear h5 hx1
          go_wp2_with ((with_reducible refine at_list ?_); first | refine wpList_load_blk rfl 37 _ rfl _ rfl _ _ _ (H5.out.1.1.2.1) Try.underlying37 rfl rg_info ?_ | refine wpList_load_blk rfl 43 _ rfl _ rfl _ _ _ (H5.out.1.2.1) Try.underlying43 rfl mail_info ?_)
          refine (take_any r s b m n 0 G xx nv2 w5 H5.out.1.1.2.2.2.1 (by unfold maxLen; omega) u0 H5.out.1.1.2.2.1 H5.out.1.2.2 (by have := H5.out.2; omega)).mono ?_
          rintro e w6 ⟨⟨A1, d1, A2, d2, xs, ys, rfl, hR, hM, hxs, hys, -, -⟩, hB6, hK6⟩
          obtain ⟨may, hmay⟩ : ∃ may, mayL 0 (G xx.m.stream) xx.m.epoch nv2 = may := ⟨_, rfl⟩
          rw [hmay] at hxs hys hB6
          have hkd : ∀ y ∈ ys, KindOk r xx.m y.m := fun y hy => take_kinds r may xx.m y.m (by rw [← hys]; exact List.mem_map_of_mem hy)
          have hen : ∀ y ∈ xs, y.ents.length ≤ 1000 := fun y hy => by
            have h1 := take_ents r may xx.m y.s (by rw [← hxs]; exact List.mem_map_of_mem hy)
            have h2 := (may_com HMR.out).2.2
            have h3 := H5.out.2
            have h4 : y.s.ents = y.ents := rfl
            rw [h4] at h1
            omega
          have hfx : xs.length ≤ 2 ∧ ys.length ≤ 1 := by
            have h1 := take_few r may xx.m
            rw [← hxs, ← hys, List.length_map, List.length_map] at h1
            exact h1
          have hbl : xx.m.epoch < r.prom → xs = [] := fun h => map_none (hxs.trans (take_below r may xx.m h))
          have hI6 := H5.out.1.1.take hB6 hK6
          have hM6 := hK6.blk H5.out.1.2.1 (fun e => H5.out.1.1.2.2.2.1.notBlk H5.out.1.2.1 (Option.some.inj e)) (by simp)
          have H6 := Lib.hid (And.intro hI6 (And.intro hM6 (And.intro hR (And.intro hM (And.intro hkd (And.intro hen (And.intro hbl hfx)))))))
          have hyl := hfx.2
          clear hfx
          clear hI6 hM6 hR hM hkd hen hbl hxs hys hB6 hK6 hmay H5
          go_wp2_with fail
          have hfin : Below w6.heap.size w6 w6 := Below.refl _ _
          have AO := AA
          go_loopg [12] ys.length (fun q i wr => ∃ k : Nat, q = ys.length - k ∧ k ≤ ys.length ∧ i = .int .i64 k ∧ Below w6.heap.size w6 wr)
          case atStart => exact ⟨0, rfl, by omega, rfl, hfin⟩
          case round => as_aux_lemma =>
            clear hfin AA
            obtain ⟨k, hq, hk, rfl, hwr⟩ := hrel
            have AA : Aside (gk = ys.length - k) := hq
            clear hq
            obtain ⟨wt, rfl⟩ : ∃ wt, wt = wr := ⟨_, rfl⟩
            by_cases hkl : k < ys.length
            · have k0 : (0 : Int) ≤ (k : Int) := by omega
              have k1 : (k : Int) < (ys.length : Int) := by omega
              obtain ⟨b4, o4, y, rfl, hy, _, FY, _⟩ := H6.out.2.2.2.1.at_ hkl
              have hyk := H6.out.2.2.2.2.1 y (List.mem_of_getElem? hy.out)
              have FB : ∀ W, Below w6.heap.size w6 W → (W.cell? ⟨b4, o4 + k * 18, none⟩ = some (.int .i64 y.m.kind) ∧ W.cell? ⟨b4, o4 + k * 18 + 1, none⟩ = some (.int .i64 y.m.from_) ∧ W.cell? ⟨b4, o4 + k * 18 + 2, none⟩ = some (.int .i64 y.m.to) ∧ W.cell? ⟨b4, o4 + k * 18 + 8, none⟩ = some (.int .i64 y.m.stamp)) ∧
                  (W.cell? ⟨gm, 1, none⟩ = some (.int .i64 xx.m.from_) ∧ W.cell? ⟨gm, 2, none⟩ = some (.int .i64 xx.m.to) ∧ W.cell? ⟨gm, 4, none⟩ = some (.int .i64 xx.m.epoch) ∧ W.cell? ⟨gm, 8, none⟩ = some (.int .i64 xx.m.stamp)) ∧ W.cell? ⟨gr, 0, none⟩ = some (.int .i64 r.prom) := fun W h =>
                ⟨⟨FY W h 0 (by omega), FY W h 1 (by omega), FY W h 2 (by omega), FY W h 8 (by omega)⟩, ⟨(H6.out.2.1.keep h).cell 1, (H6.out.2.1.keep h).cell 2, (H6.out.2.1.keep h).cell 4, (H6.out.2.1.keep h).cell 8⟩, (H6.out.1.2.1.keep h).cell 0⟩
              have HW := Lib.hid hwr.drew
              clear FY hwr hy
              have hcs : (∃ kk : Int, y.m.kind = kk ∧ (kk == 2) = true ∧ KindOk r xx.m y.m ∧ (y.m.kind = 2 ∨ y.m.kind = 5)) ∨ (∃ kk : Int, y.m.kind = kk ∧ (kk == 2) = false ∧ (kk == 5) = true ∧ KindOk r xx.m y.m ∧ (y.m.kind = 2 ∨ y.m.kind = 5)) ∨ ((y.m.kind == 2) = false ∧ (y.m.kind == 5) = false) := by
                by_cases h2 : y.m.kind = 2
                · exact .inl ⟨_, rfl, by simpa using h2, hyk, .inl h2⟩
                · by_cases h5 : y.m.kind = 5
                  · exact .inr (.inl ⟨_, rfl, by simpa using h2, by simpa using h5, hyk, .inr h5⟩)
                  · exact .inr (.inr ⟨by simpa using h2, by simpa using h5⟩)
              have n1 : (xx.m.from_ != xx.m.from_) = false := by simp
              have n2 : (xx.m.to != xx.m.to) = false := by simp
              have n3 : (xx.m.stamp != xx.m.stamp) = false := by simp
              clear hyk
              rcases hcs with ⟨kk, e0, e1, hko, hkk⟩ | ⟨kk, e0, e1, e2, hko, hkk⟩ | ⟨e1, e2⟩
              all_goals
                try (obtain ⟨p1, p2, p3, p4⟩ := hko hkk; rw [e0, p2, p3, p4] at FB; clear p2 p3 p4 hko hkk e0)
                go_wp2_with fail
                refine wp_region_p ([(0, true), (1, true), (2, true), (3, true), (4, true), (5, true), (6, true), (7, true), (8, true), (9, true), (10, true), (11, true), (12, true), (13, true), (14, true), (15, true), (16, true), (17, true), (18, true), (19, true), (20, true), (21, true), (22, true), (23, true), (24, true), (25, true), (26, true), (27, true), (28, true), (29, true), (30, true), (31, true), (32, true), (33, true), (34, true), (35, true), (36, true), (37, true), (38, true), (39, true), (40, true), (41, true), (42, true), (43, true), (44, true), (45, true), (46, true), (47, true), (48, true), (49, true), (50, true)]) (fun w' => Below w6.heap.size w6 w') (by kernel_rfl) rfl (by kernel_rfl) (by kernel_rfl) (HW.out) rfl ?_
                intro KP RP TP hKP hTP hTP'
                simp only [List.append_eq, List.cons_append, List.nil_append, pick, nth]
                generalize wt.drew = wu at *
                go_wp2_with (first
                  | (apply SeqP.skip; rfl; simp only [Act.put, List.setIfInBounds_toArray, List.set_cons_zero, List.set_cons_succ])
                  | (apply SeqP.call; rfl; rfl; (intro w2 hw; have hw := hTP _ hw; ((obtain ⟨⟨q0, q1, q2, q8⟩, ⟨m1, m2, m4, m8⟩, r0⟩ := FB _ hw)); go_simp; exact ⟨rfl, rfl⟩); (intro w2 hw; have hw := hTP _ hw; ((obtain ⟨⟨q0, q1, q2, q8⟩, ⟨m1, m2, m4, m8⟩, r0⟩ := FB _ hw)); (first | fail)); simp only [Act.put, List.setIfInBounds_toArray, List.set_cons_zero, List.set_cons_succ])
                  | (apply SeqP.pure; rfl; (intro w2 hw; have hw := hTP _ hw; ((obtain ⟨⟨q0, q1, q2, q8⟩, ⟨m1, m2, m4, m8⟩, r0⟩ := FB _ hw)); go_simp; with_reducible rfl); simp only [Act.put, List.setIfInBounds_toArray, List.set_cons_zero, List.set_cons_succ])
                  | (apply SeqP.split; rfl; rfl; all_goals (intro hc; simp only [hc]; try simp only [beq_iff_eq, decide_eq_true_eq, beq_eq_false_iff_ne, decide_eq_false_iff_not, bne_iff_ne, ne_eq, Bool.not_eq_true', Bool.not_eq_false', Int.not_le, Int.not_lt, bne_eq_false_iff_eq, Bool.or_eq_true, Bool.and_eq_true, Bool.or_eq_false_iff] at hc)))
                all_goals first | (exfalso; omega) | skip
                apply SeqP.nil
                refine hKP _ _ (hTP' _ (HW.out)) ?_
                clear hKP hTP hTP'
                go_wp2_with fail
                go_roundg (ys.length - (k + 1))
                case measure => have hkk := AA.out; omega
                case rel => exact ⟨k + 1, rfl, by omega, by go_num, HW.out⟩
            · obtain rfl : k = ys.length := by omega
              have k1 : ¬ (ys.length : Int) < (ys.length : Int) := by omega
              have hI7 := H6.out.1.keep hwr
              have H7 := Lib.hid (And.intro hI7 (And.intro (H6.out.2.1.keep hwr) (And.intro (H6.out.2.2.1.keep hwr) (And.intro H6.out.2.2.2.2.2 hnj))))
              clear hwr hI7 H6 hyl
              go_wp2_with ((with_reducible refine at_list ?_); first | refine wpList_load_blk rfl 37 _ rfl _ rfl _ _ _ (H7.out.1.2.1) Try.underlying37 rfl rg_info ?_)
              refine (applied_any r s xs A1 d1 wt H7.out.1.2.2.1 H7.out.2.2.1 (by have := H7.out.2.2.2.1.2.2.1; omega) H7.out.2.2.2.1.1).mono ?_
              have hst := stays_applied (xs.map RecV.s) r HMR.out
              have hq0 : xx.m.epoch < r.prom → xs = [] ∧ appliedS r (xs.map RecV.s) = r := fun h => by
                have := H7.out.2.2.2.1.2.1 h
                subst this
                exact ⟨rfl, rfl⟩
              obtain ⟨q, hq⟩ : ∃ q, appliedS r (xs.map RecV.s) = q := ⟨_, rfl⟩
              rw [hq] at hst hq0 ⊢
              clear hq
              rintro e w7 ⟨s7, rfl, hL7, hb7⟩
              have H7b := Lib.hid (And.intro (H7.out.1.keep hb7) (And.intro (H7.out.2.1.keep hb7) (And.intro hL7 (And.intro hst hq0))))
              clear hL7 hb7 hst hq0
              go_wp2_with ((with_reducible refine at_list ?_); first | (refine wpList_store_own rfl 37 _ _ rfl _ (rgv q s7) rfl rfl _ _ (Blk.new w7 37 (rgv reg0 (none, 0, 0))) rg_info rfl (rgv_one _ _) ?_; intro w8 B8 g8))
              have hb8 := (below_new g8).drew
              have h8 := H7b.out.1.keep hb8
              have H8 := Lib.hid (And.intro h8 (And.intro (H7b.out.2.1.keep hb8) (And.intro (H7b.out.2.2.1.keep hb8) (And.intro B8.drew H7b.out.2.2.2))))
              clear hb8 h8 B8 g8 H7b
              generalize w7.heap.size = gq at H8 ⊢
              obtain ⟨wy, hwy⟩ : ∃ wy, w8.drew = wy := ⟨_, rfl⟩
              rw [hwy] at H8
              obtain ⟨AR, nR, cR⟩ := s
              obtain ⟨AQ, nQ, cQ⟩ := s7
              obtain rfl : nR = r.log.length := H8.out.1.2.2.1.1
              obtain rfl : nQ = q.log.length := H8.out.2.2.1.1
              obtain ⟨c0, c1, c2⟩ := may_com HMR.out
              obtain ⟨d0, d1', d2'⟩ := may_com H8.out.2.2.2.2.1.1
              obtain ⟨kc, hkc⟩ := Int.eq_ofNat_of_zero_le c0
              have hle := H8.out.2.2.2.2.1.2.1
              have kr : kc ≤ r.log.length := by omega
              have kq : kc ≤ q.log.length := by omega
              have htk : q.log.take kc = r.log.take kc := by
                have h := H8.out.2.2.2.2.1.2.2
                rw [hkc] at h
                exact h
              have kR : r.log.length ≤ cR := H8.out.1.2.2.1.2.1
              have kR2 : cR ≤ 9223372036854775807 := H8.out.1.2.2.1.2.2.1
              have kQ : q.log.length ≤ cQ := H8.out.2.2.1.2.1
              have kQ2 : cQ ≤ 9223372036854775807 := H8.out.2.2.1.2.2.1
              have cq2 : ((kc : Nat) : Int) ≤ (cQ : Int) := by omega
              have cr2 : ((kc : Nat) : Int) ≤ (cR : Int) := by omega
              have cz : (0 : Int) ≤ (kc : Int) := by omega
              have dn : decide (q.log.length < kc) = false := decide_eq_false (by omega)
              have di : decide ((q.log.length : Int) < ((kc : Nat) : Int)) = false := decide_eq_false (by omega)
              have hmi : min (kc : Int) (q.log.length : Int) = (kc : Int) := by omega
              have n3 : ¬ q.com < (kc : Int) := by omega
              have HTK := Lib.hid htk
              have FB : ∀ W, Below wy.heap.size wy W → W.cell? ⟨gm, 4, none⟩ = some (.int .i64 xx.m.epoch) ∧ (W.cell? ⟨gr, 0, none⟩ = some (.int .i64 r.prom) ∧ W.cell? ⟨gr, 1, none⟩ = some (.int .i64 r.view) ∧ W.cell? ⟨gr, 2, none⟩ = some (.slice AR r.log.length cR) ∧ W.cell? ⟨gr, 3, none⟩ = some (.int .i64 (kc : Int))) ∧
                  (W.cell? ⟨gq, 0, none⟩ = some (.int .i64 q.prom) ∧ W.cell? ⟨gq, 1, none⟩ = some (.int .i64 q.view) ∧ W.cell? ⟨gq, 2, none⟩ = some (.slice AQ q.log.length cQ) ∧ W.cell? ⟨gq, 3, none⟩ = some (.int .i64 q.com)) := fun W h =>
                ⟨(H8.out.2.1.keep h).cell 4, ⟨(H8.out.1.2.1.keep h).cell 0, (H8.out.1.2.1.keep h).cell 1, (H8.out.1.2.1.keep h).cell 2, by rw [(H8.out.1.2.1.keep h).cell]; show some (Value.int .i64 r.com) = _; rw [hkc]⟩, (H8.out.2.2.2.1.keep h).cell 0, (H8.out.2.2.2.1.keep h).cell 1, (H8.out.2.2.2.1.keep h).cell 2, (H8.out.2.2.2.1.keep h).cell 3⟩
              have hsl := same_sl (q.log.take kc) (r.log.take kc) (AQ, kc, cQ) (AR, kc, cR) wy (H8.out.2.2.1.front (by omega)) (H8.out.1.2.2.1.front (by omega)) htk
              have HSL := Lib.hid hsl
              have hcs : (∃ qq : RegS, q = qq ∧ xx.m.epoch < r.prom ∧ xs.length = 0 ∧ (q.prom != r.prom) = false ∧ (q.view != r.view) = false) ∨ ¬ xx.m.epoch < r.prom := by
                by_cases he : xx.m.epoch < r.prom
                · obtain ⟨e1, e2⟩ := H8.out.2.2.2.2.2 he
                  exact .inl ⟨_, rfl, he, by rw [e1]; rfl, by rw [e2]; simp, by rw [e2]; simp⟩
                · exact .inr he
              clear hsl htk hle c0 c1 c2 d0 d1' d2' hkc
              rcases hcs with ⟨qq, -, e1, e2, e3, e4⟩ | e1
              all_goals
                go_wp2_with fail
                refine wp_region_p ([(0, true), (1, true), (2, true), (3, true), (4, true), (5, true), (6, true), (7, true), (8, true), (9, true), (10, true), (11, true), (12, true), (13, true), (14, true), (15, true), (16, true), (17, true), (18, true), (19, true), (20, true), (21, true), (22, true), (23, true), (24, true), (25, true), (26, true), (27, true), (28, true), (29, true), (30, true), (31, true), (32, true), (33, true), (34, true), (35, true), (36, true), (37, true), (38, true), (39, true), (40, true), (41, true), (42, true), (43, true), (44, true), (45, true), (46, false), (47, true), (48, true)]) (fun w' => Below wy.heap.size wy w') (by kernel_rfl) rfl (by kernel_rfl) (by kernel_rfl) (by rw [hwy]; exact Below.refl _ _) rfl ?_
                intro KP RP TP hKP hTP hTP'
                simp only [List.append_eq, List.cons_append, List.nil_append, pick, nth]
                rw [hwy]
                go_wp2_with (first
                  | (apply SeqP.skip; rfl; simp only [Act.put, List.setIfInBounds_toArray, List.set_cons_zero, List.set_cons_succ])
                  | (apply SeqP.call; rfl; rfl; (intro w2 hw; have hw := hTP _ hw; ((obtain ⟨m4, ⟨r0, r1, r2, r3⟩, q0, q1, q2, q3⟩ := FB _ hw)); go_simp; exact ⟨rfl, rfl⟩); (intro w2 hw; have hw := hTP _ hw; ((obtain ⟨m4, ⟨r0, r1, r2, r3⟩, q0, q1, q2, q3⟩ := FB _ hw)); (first | fail)); simp only [Act.put, List.setIfInBounds_toArray, List.set_cons_zero, List.set_cons_succ])
                  | (apply SeqP.pure; rfl; (intro w2 hw; have hw := hTP _ hw; ((obtain ⟨m4, ⟨r0, r1, r2, r3⟩, q0, q1, q2, q3⟩ := FB _ hw)); go_simp; with_reducible rfl); simp only [Act.put, List.setIfInBounds_toArray, List.set_cons_zero, List.set_cons_succ])
                  | (apply SeqP.split; rfl; rfl; all_goals (intro hc; simp only [hc]; try simp only [beq_iff_eq, decide_eq_true_eq, beq_eq_false_iff_ne, decide_eq_false_iff_not, bne_iff_ne, ne_eq, Bool.not_eq_true', Bool.not_eq_false', Int.not_le, Int.not_lt, bne_eq_false_iff_eq, Bool.or_eq_true, Bool.and_eq_true, Bool.or_eq_false_iff] at hc)))
                all_goals first | (exfalso; omega) | skip
                all_goals as_aux_lemma => (
                  apply SeqP.eff
                  · rfl
                  intro KE hKE
                  go_wp2_with fail
                  with_reducible refine Calls.mono HSL.out ?_
                  rintro e w9 ⟨rfl, hb9⟩
                  refine hKE _ _ (hTP' _ hb9) ?_
                  clear hKE
                  go_wp2_with (first
                    | (apply SeqP.skip; rfl; simp only [Act.put, List.setIfInBounds_toArray, List.set_cons_zero, List.set_cons_succ])
                    | (apply SeqP.call; rfl; rfl; (intro w2 hw; have hw := hTP _ hw; (skip); go_simp; exact ⟨rfl, rfl⟩); (intro w2 hw; have hw := hTP _ hw; (skip); (first | fail)); simp only [Act.put, List.setIfInBounds_toArray, List.set_cons_zero, List.set_cons_succ])
                    | (apply SeqP.pure; rfl; (intro w2 hw; have hw := hTP _ hw; (skip); go_simp; with_reducible rfl); simp only [Act.put, List.setIfInBounds_toArray, List.set_cons_zero, List.set_cons_succ])
                    | (apply SeqP.split; rfl; rfl; all_goals (intro hc; simp only [hc]; try simp only [beq_iff_eq, decide_eq_true_eq, beq_eq_false_iff_ne, decide_eq_false_iff_not, bne_iff_ne, ne_eq, Bool.not_eq_true', Bool.not_eq_false', Int.not_le, Int.not_lt, bne_eq_false_iff_eq, Bool.or_eq_true, Bool.and_eq_true, Bool.or_eq_false_iff] at hc)))
                  apply SeqP.nil
                  refine hKP _ _ (hTP' _ (hb9)) ?_
                  clear hKP hTP hTP'
                  go_wp2_with ((with_reducible refine at_list ?_); first | refine wpList_load_blk rfl 37 _ rfl _ rfl _ _ _ ((H8.out.2.2.2.1.keep hb9)) Try.underlying37 rfl rg_info ?_ | (refine wpList_store_own rfl 37 _ _ rfl _ (rgv q (AQ, q.log.length, cQ)) rfl rfl _ _ ((H8.out.1.2.1.keep hb9)) rg_info rfl (rgv_one _ _) ?_; intro w10 B10 g10))
                  go_roundg (l.length - (j + 1))
                  case measure => have hkk := AO.out; omega
                  case rel => exact ⟨j + 1, n + 1, nv2, q, (AQ, q.log.length, cQ), _, rfl, by omega, rfl, by go_num, by omega, by have hkk := AO.out; omega, H8.out.2.2.2.2.1.1, (H8.out.1.keep hb9).put (H8.out.2.2.1.keep hb9) B10 g10⟩)
      · obtain rfl : j = l.length := by omega
        have j1 : ¬ (l.length : Int) < (l.length : Int) := by omega
        have HZ := Lib.hid HI.out.1.1
        clear HI
        go_wp2_with fail
        refine (lives19_any _).mono ?_
        rintro e w4 ⟨rfl, hb⟩
        have hw4 := below_trans HZ.out hb HZ.out.size
        clear hb
        go_wp2_with fail
        go_ret
        exact ⟨rfl, hw4⟩
end Go.Proofs.Ytdphfhenjndkkaa

set_option linter.unusedSimpArgs false
set_option linter.unusedVariables false
set_option maxRecDepth 100000
namespace Go.Sq
open Go Go.ChangeShapes Go.WideShapes Go.RowKit Go.Deep
section
variable {H : Type} {enc : TypeId × Value → H} {P : Program} {w : World} {base : Nat} {spare : Nat → Bool} {held : Bool}
theorem open_rows_in {k : Nat} {t e : TypeId} {C : Nat} {v : Value} {y : DataW H × List MemPlace} (ht : P.underlying t = some (.slice e))
    (hC : P.cellsOf e = C) (hpos : 0 < C) (h : DataW.trod enc P w base spare held k t [v] = some y) :
    ∃ (a : Option Addr) (len cap : Nat), v = .slice a len cap ∧ len ≤ cap ∧ cap ≤ maxLen ∧ (0 < len → ∃ b off, a = some ⟨b, off, none⟩ ∧ b < w.heap.size ∧ ∀ i, i < len →
      ∃ (cs : List Value) (n : Nat) (y : DataW H × List MemPlace), cs.length = C ∧ (∀ k, k < C → w.cell? ⟨b, off + i * C + k, none⟩ = cs[k]?) ∧ DataW.trod enc P w base spare held n e cs = some y) := by
  rcases open_slice ht h with ⟨hcs, _⟩ | ⟨a, l, c, m, n, D, Pl, hcs, _, hl, hm, hmm, _, hi⟩
  · cases hcs
    exact ⟨none, 0, 0, rfl, Nat.le_refl _, by simp [maxLen], fun h => absurd h (by omega)⟩
  · cases hcs
    refine ⟨some a, l, c, rfl, hl, hm, fun hlen => ?_⟩
    obtain ⟨b, off, rfl, hbl⟩ : ∃ b off, a = ⟨b, off, none⟩ ∧ b < w.heap.size := by
      obtain ⟨cs', hc, _⟩ := hi 0 (by rw [hmm]; split <;> omega)
      rw [hC] at hc
      obtain ⟨_, hcl, hat⟩ := World.cells?_some hc
      have h0 := hat 0 hpos
      rw [List.getElem?_eq_getElem (show 0 < cs'.length by omega)] at h0
      have hsp : a.spot = none := by simpa [Addr.add] using World.cell?_spot h0
      have hbl := World.block_lt_of_cell? _ _ h0
      rw [add_block, add_block] at hbl
      obtain ⟨b, off, spot⟩ := a
      obtain rfl : spot = none := hsp
      exact ⟨b, off, rfl, hbl⟩
    refine ⟨b, off, rfl, hbl, fun i hil => ?_⟩
    obtain ⟨cs', hc, ht'⟩ := hi i (by rw [hmm]; split <;> omega)
    rw [hC] at hc
    obtain ⟨_, hcl, hat⟩ := World.cells?_some hc
    refine ⟨cs', n, _, hcl, fun k hk => ?_, ht'⟩
    have h3 := hat k hk
    rw [add_none, add_none] at h3
    exact h3
end
end Go.Sq

set_option linter.unusedSimpArgs false
set_option linter.unusedVariables false
set_option maxRecDepth 100000
namespace Go.Proofs.Ytdphfhenjndkkaa
open Go Go.ChangeShapes Go.WideShapes Go.RowKit Go.Deep Go.Sq Go.Wd Go.Arch
section
variable {H : Type} {enc : TypeId × Value → H} {w : World} {base : Nat} {spare : Nat → Bool} {held : Bool}

theorem open_log {k : Nat} {v : Value} {y : DataW H × List MemPlace} (h : DataW.trod enc Try.prog w base spare held k 35 [v] = some y) :
    ∃ (sl : SlcE) (es : List Ent), v = .slice sl.1 sl.2.1 sl.2.2 ∧ LogAt w w.heap.size sl es ∧ ∀ e ∈ es, wfEnt e := by
  obtain ⟨A, len, cap, rfl, h1, h2, h3⟩ := open_rows_in Try.underlying35 (C := 6) (by kernel_rfl) (by omega) h
  have h2' : cap ≤ 9223372036854775807 := by simp only [maxLen] at h2; omega
  rcases Nat.eq_zero_or_pos len with h0 | h0
  · subst h0
    exact ⟨(A, 0, cap), [], rfl, ⟨rfl, h1, h2', Ents.nil⟩, by simp⟩
  · obtain ⟨b, off, rfl, hb, hrow⟩ := h3 h0
    obtain ⟨l, hl, hp⟩ := list_of (p := fun i e => EntAt w b (off + i * 6) e ∧ wfEnt e) len (fun i hi => by
      obtain ⟨cs, n, y, hcl, hcell, ht⟩ := hrow i hi
      obtain ⟨e, rfl, hw⟩ := open_ent ht
      exact ⟨e, ⟨hcell 0 (by omega), hcell 1 (by omega), hcell 2 (by omega), hcell 3 (by omega), hcell 4 (by omega), hcell 5 (by omega)⟩, hw⟩)
    subst hl
    refine ⟨(some ⟨b, off, none⟩, l.length, cap), l, rfl, ⟨rfl, h1, h2', fun _ => ⟨b, off, rfl, hb, fun i e he => (hp i e he).1⟩⟩, fun e he => ?_⟩
    obtain ⟨i, hi⟩ := List.getElem?_of_mem he
    exact (hp i e hi).2
theorem open_any_slice {k : Nat} {t e : TypeId} {v : Value} {y : DataW H × List MemPlace} (ht : Try.prog.underlying t = some (.slice e)) (h : DataW.trod enc Try.prog w base spare held k t [v] = some y) : ∃ sl : SlcE, v = .slice sl.1 sl.2.1 sl.2.2 := by
  rcases open_slice ht h with ⟨hcs, _⟩ | ⟨a, l, c, m, n, D, Pl, hcs, _⟩
  · cases hcs
    exact ⟨(none, 0, 0), rfl⟩
  · cases hcs
    exact ⟨(some a, l, c), rfl⟩
theorem rec_fields {fs : Array Field} (hs : Try.prog.underlying 53 = some (.struct fs)) {n : Nat} {cs : List Value} (hl : cs.length = fs.size)
    (hf : ∀ (j : Nat) (f : Field), fs[j]? = some f → ∃ (c : Value) (y : DataW H × List MemPlace), cs[j]? = some c ∧ DataW.trod enc Try.prog w base spare held n f.type [c] = some y) :
    ∃ x : RecV, cs = rcv x ∧ LogAt w w.heap.size x.es x.ents ∧ ∀ e ∈ x.ents, wfEnt e := by
  rw [Try.underlying53] at hs
  cases hs
  obtain ⟨c0, c1, c2, c3, c4, c5, c6, c7, rfl⟩ := len8 hl
  obtain ⟨_, _, e0, t0⟩ := hf 0 _ rfl
  obtain ⟨_, _, e1, t1⟩ := hf 1 _ rfl
  obtain ⟨_, _, e2, t2⟩ := hf 2 _ rfl
  obtain ⟨_, _, e3, t3⟩ := hf 3 _ rfl
  obtain ⟨_, _, e4, t4⟩ := hf 4 _ rfl
  obtain ⟨_, _, e5, t5⟩ := hf 5 _ rfl
  obtain ⟨_, _, e6, t6⟩ := hf 6 _ rfl
  obtain ⟨_, _, e7, t7⟩ := hf 7 _ rfl
  cases e0; cases e1; cases e2; cases e3; cases e4; cases e5; cases e6; cases e7
  obtain ⟨z0, q0, _, _⟩ := DataW.trod_int Try.underlying3 t0
  obtain ⟨z1, q1, _, _⟩ := DataW.trod_int Try.underlying3 t1
  obtain ⟨z2, q2, _, _⟩ := DataW.trod_int Try.underlying3 t2
  obtain ⟨z3, q3, _, _⟩ := DataW.trod_int Try.underlying3 t3
  obtain ⟨z4, q4, _, _⟩ := DataW.trod_int Try.underlying3 t4
  obtain ⟨z5, q5, _, _⟩ := DataW.trod_int Try.underlying3 t5
  cases q0; cases q1; cases q2; cases q3; cases q4; cases q5
  obtain ⟨sl, es, rfl, hE, hw⟩ := open_log t6
  obtain ⟨fs, rfl⟩ := open_any_slice Try.underlying51 t7
  exact ⟨⟨z0, z1, z2, z3, z4, z5, sl, es, fs⟩, rfl, hE, hw⟩
theorem reg_fields {fs : Array Field} (hs : Try.prog.underlying 37 = some (.struct fs)) {n : Nat} {cs : List Value} (hl : cs.length = fs.size)
    (hf : ∀ (j : Nat) (f : Field), fs[j]? = some f → ∃ (c : Value) (y : DataW H × List MemPlace), cs[j]? = some c ∧ DataW.trod enc Try.prog w base spare held n f.type [c] = some y) :
    ∃ (r : RegS) (sl : SlcE), cs = rgv r sl ∧ LogAt w w.heap.size sl r.log ∧ ∀ e ∈ r.log, wfEnt e := by
  rw [Try.underlying37] at hs
  cases hs
  obtain ⟨c0, c1, c2, c3, rfl⟩ := len4 hl
  obtain ⟨_, _, e0, t0⟩ := hf 0 _ rfl
  obtain ⟨_, _, e1, t1⟩ := hf 1 _ rfl
  obtain ⟨_, _, e2, t2⟩ := hf 2 _ rfl
  obtain ⟨_, _, e3, t3⟩ := hf 3 _ rfl
  cases e0; cases e1; cases e2; cases e3
  obtain ⟨z0, q0, _, _⟩ := DataW.trod_int Try.underlying3 t0
  obtain ⟨z1, q1, _, _⟩ := DataW.trod_int Try.underlying3 t1
  obtain ⟨z3, q3, _, _⟩ := DataW.trod_int Try.underlying3 t3
  cases q0; cases q1; cases q3
  obtain ⟨sl, es, rfl, hE, hw⟩ := open_log t2
  exact ⟨⟨z0, z1, es, z3⟩, sl, rfl, hE, hw⟩
theorem open_rec_cells {n : Nat} {cs : List Value} {y : DataW H × List MemPlace} (h : DataW.trod enc Try.prog w base spare held n 53 cs = some y) : ∃ x : RecV, cs = rcv x ∧ LogAt w w.heap.size x.es x.ents ∧ ∀ e ∈ x.ents, wfEnt e := by
  obtain ⟨hl, m, hf⟩ := cells_fields Try.underlying53 (by kernel_rfl) (by kernel_rfl) h
  exact rec_fields Try.underlying53 hl hf
theorem open_rec {r : Reach} {b0 : Nat} {v : Value} {d : DataW H} {p : List MemPlace} (hv : Value.okWide Try.prog w r b0 53 v) (h : DataW.Trod enc Try.prog w base spare held 53 v d p) :
    ∃ x : RecV, v = .agg (rcv x).toArray ∧ LogAt w w.heap.size x.es x.ents ∧ ∀ e ∈ x.ents, wfEnt e := by
  obtain ⟨l, m, rfl, hl, hf⟩ := open_fields Try.underlying53 (by kernel_rfl) (by kernel_rfl) hv h
  obtain ⟨x, rfl, hx⟩ := rec_fields Try.underlying53 hl hf
  exact ⟨x, rfl, hx⟩
theorem open_register {r : Reach} {b0 : Nat} {v : Value} {d : DataW H} {p : List MemPlace} (hv : Value.okWide Try.prog w r b0 37 v) (h : DataW.Trod enc Try.prog w base spare held 37 v d p) :
    ∃ (r : RegS) (sl : SlcE), v = .agg (rgv r sl).toArray ∧ LogAt w w.heap.size sl r.log ∧ ∀ e ∈ r.log, wfEnt e := by
  obtain ⟨l, m, rfl, hl, hf⟩ := open_fields Try.underlying37 (by kernel_rfl) (by kernel_rfl) hv h
  obtain ⟨x, sl, rfl, hx⟩ := reg_fields Try.underlying37 hl hf
  exact ⟨x, sl, rfl, hx⟩
theorem open_recs {r : Reach} {b0 : Nat} {v : Value} {d : DataW H} {p : List MemPlace} (hv : Value.okWide Try.prog w r b0 44 v) (h : DataW.Trod enc Try.prog w base spare held 44 v d p) :
    ∃ (A : Option Addr) (l : List RecV) (c : Nat), v = .slice A l.length c ∧ l.length ≤ c ∧ c ≤ 9223372036854775807 ∧ Recs w w.heap.size A l := by
  obtain ⟨A, len, cap, rfl, h1, h2, h3⟩ := open_rows_any Try.underlying44 (C := 8) (by kernel_rfl) (by omega) hv h
  have h2' : cap ≤ 9223372036854775807 := by simp only [maxLen] at h2; omega
  rcases Nat.eq_zero_or_pos len with h0 | h0
  · subst h0
    exact ⟨A, [], cap, rfl, h1, h2', by simp, fun h => absurd h (by simp)⟩
  · obtain ⟨b, off, rfl, hb, hrow⟩ := h3 h0
    obtain ⟨l, hl, hp⟩ := list_of (p := fun i e => RecAt w b (off + i * 8) e ∧ LogAt w w.heap.size e.es e.ents) len (fun i hi => by
      obtain ⟨cs, n, y, hcl, hcell, ht⟩ := hrow i hi
      obtain ⟨x, rfl, hE, _⟩ := open_rec_cells ht
      exact ⟨x, ⟨hcell 0 (by omega), hcell 1 (by omega), hcell 2 (by omega), hcell 3 (by omega), hcell 4 (by omega), hcell 5 (by omega), hcell 6 (by omega), hcell 7 (by omega)⟩, hE⟩)
    subst hl
    refine ⟨_, l, cap, rfl, h1, h2', fun x hx => ?_, fun _ => ⟨b, off, rfl, hb, fun i e he => (hp i e he).1⟩⟩
    obtain ⟨i, hi⟩ := List.getElem?_of_mem hx
    exact (hp i x hi).2
end
end Go.Proofs.Ytdphfhenjndkkaa

set_option linter.unusedSimpArgs false
set_option linter.unusedVariables false
set_option maxRecDepth 100000
namespace Go.Sq
open Go Go.ChangeShapes Go.WideShapes Go.RowKit Go.Deep
section
variable {H : Type} {enc : TypeId × Value → H} {P : Program} {w : World} {base : Nat} {spare : Nat → Bool} {held : Bool}

theorem ints_of {n k : Nat} {t : TypeId} {fs : Array Field} {l : List Value} {x : DataW H × List MemPlace} (hs : P.underlying t = some (.struct fs)) (hone : oneCellFields P fs = true)
    (hC : P.cellsOf t = fs.size) (h5 : fs.size = k) (hty : ∀ (j : Nat) (f : Field), fs[j]? = some f → P.underlying f.type = some (.int .i64)) (h : DataW.trod enc P w base spare held n t l = some x) :
    ∃ zs : List Int, zs.length = k ∧ l = zs.map (.int .i64) ∧ ∀ z ∈ zs, (Lit.int .i64 z).wf = true := by
  obtain ⟨hl, m, hf⟩ := cells_fields hs hone hC h
  rw [h5] at hl
  obtain ⟨zs, hz, hp⟩ := list_of (p := fun i z => l[i]? = some (.int .i64 z) ∧ (Lit.int .i64 z).wf = true) k (fun j hj => by
    have hj' : j < fs.size := by omega
    obtain ⟨c', y, h1, h2⟩ := hf j _ (Array.getElem?_eq_getElem hj')
    obtain ⟨z, hz, _, hw⟩ := DataW.trod_int (hty j _ (Array.getElem?_eq_getElem hj')) h2
    obtain rfl : c' = .int .i64 z := by simpa using hz
    exact ⟨z, h1, hw⟩)
  refine ⟨zs, hz, List.ext_getElem? (fun i => ?_), fun z hzm => ?_⟩
  · rw [List.getElem?_map]
    by_cases hi : i < k
    · have := (hp i zs[i] (List.getElem?_eq_getElem (by omega))).1
      rw [this, List.getElem?_eq_getElem (by omega)]
      rfl
    · rw [List.getElem?_eq_none (by omega), List.getElem?_eq_none (by omega)]
      rfl
  · obtain ⟨i, hi, rfl⟩ := List.mem_iff_getElem.1 hzm
    exact (hp i _ (List.getElem?_eq_getElem hi)).2
end
end Go.Sq

set_option linter.unusedSimpArgs false
set_option linter.unusedVariables false
set_option maxRecDepth 100000
namespace Go.Sq
open Go Go.ChangeShapes Go.WideShapes Go.RowKit Go.Deep
section
variable {H : Type} {enc : TypeId × Value → H} {P : Program} {w : World} {base : Nat} {spare : Nat → Bool} {held : Bool} {α : Type}

theorem open_sl_in (R : Gr.Enc P α) {q : α → Prop} {k : Nat} {v : Value} {y : DataW H × List MemPlace} (hC : P.cellsOf R.elem = R.size)
    (hdec : ∀ (n : Nat) (cs : List Value) (y : DataW H × List MemPlace), DataW.trod enc P w base spare held n R.elem cs = some y → ∃ a, cs = R.enc a ∧ q a)
    (h : DataW.trod enc P w base spare held k R.slice [v] = some y) :
    ∃ (A : Option Addr) (l : List α) (c : Nat), v = .slice A l.length c ∧ l.length ≤ c ∧ c ≤ 9223372036854775807 ∧ Gr.Sl R w w.heap.size A l ∧ (∀ a ∈ l, q a) ∧ (A = none → c = 0) := by
  obtain ⟨A, len, cap, rfl, h1, h2, h3⟩ := open_rows_in R.und hC R.pos h
  have h2' : cap ≤ 9223372036854775807 := by simp only [maxLen] at h2; omega
  have hnil : A = none → cap = 0 := fun e => by
    subst e
    rcases open_slice R.und h with ⟨hcs, _⟩ | ⟨a, l, c, m, n, D, Pl, hcs, _⟩
    · injection hcs with hcs
      injection hcs
    · injection hcs with hcs
      injection hcs with h
      cases h
  rcases Nat.eq_zero_or_pos len with h0 | h0
  · subst h0
    exact ⟨A, [], cap, rfl, h1, h2', Gr.Sl.nil, by simp, hnil⟩
  · obtain ⟨b, off, rfl, hb, hrow⟩ := h3 h0
    obtain ⟨l, hl, hp⟩ := list_of (p := fun i e => Gr.At R w b (off + i * R.size) e ∧ q e) len (fun i hi => by
      obtain ⟨cs, n, y, hcl, hcell, ht⟩ := hrow i hi
      obtain ⟨a, rfl, hq⟩ := hdec n cs y ht
      exact ⟨a, fun k hk => hcell k hk, hq⟩)
    subst hl
    refine ⟨some ⟨b, off, none⟩, l, cap, rfl, h1, h2', fun _ => ⟨b, off, rfl, hb, fun i e he => (hp i e he).1⟩, fun a ha => ?_, hnil⟩
    obtain ⟨i, hi⟩ := List.getElem?_of_mem ha
    exact (hp i a hi).2
theorem open_sl (R : Gr.Enc P α) {q : α → Prop} {r : Reach} {b0 : Nat} {v : Value} {d : DataW H} {p : List MemPlace} (hC : P.cellsOf R.elem = R.size)
    (hdec : ∀ (n : Nat) (cs : List Value) (y : DataW H × List MemPlace), DataW.trod enc P w base spare held n R.elem cs = some y → ∃ a, cs = R.enc a ∧ q a)
    (hv : Value.okWide P w r b0 R.slice v) (h : DataW.Trod enc P w base spare held R.slice v d p) :
    ∃ (A : Option Addr) (l : List α) (c : Nat), v = .slice A l.length c ∧ l.length ≤ c ∧ c ≤ 9223372036854775807 ∧ Gr.Sl R w w.heap.size A l ∧ (∀ a ∈ l, q a) ∧ (A = none → c = 0) := by
  obtain ⟨a0, len, cap, rfl⟩ := okWide_slice R.und hv
  obtain ⟨fuel, hf⟩ := h
  exact open_sl_in R hC hdec (by simpa [Value.cells] using hf)
end
end Go.Sq

set_option linter.unusedSimpArgs false
set_option linter.unusedVariables false
set_option maxRecDepth 100000
namespace Go.Proofs.Ytdphfhenjndkkaa
open Go Go.ChangeShapes Go.WideShapes Go.RowKit Go.Deep Go.Sq Go.Wd Go.Arch
section
variable {H : Type} {enc : TypeId × Value → H} {w : World} {base : Nat} {spare : Nat → Bool} {held : Bool}

theorem len18 {α : Type} {l : List α} (h : l.length = 18) : ∃ a0 a1 a2 a3 a4 a5 a6 a7 a8 a9 b0 b1 b2 b3 b4 b5 b6 b7, l = [a0, a1, a2, a3, a4, a5, a6, a7, a8, a9, b0, b1, b2, b3, b4, b5, b6, b7] := by
  match l, h with
  | [a0, a1, a2, a3, a4, a5, a6, a7, a8, a9, b0, b1, b2, b3, b4, b5, b6, b7], _ => exact ⟨a0, a1, a2, a3, a4, a5, a6, a7, a8, a9, b0, b1, b2, b3, b4, b5, b6, b7, rfl⟩

set_option maxHeartbeats 2000000 in
theorem open_mail {n : Nat} {cs : List Value} {y : DataW H × List MemPlace} (h : DataW.trod enc Try.prog w base spare held n 43 cs = some y) : ∃ x : MailV, cs = mailv x ∧ LogAt w w.heap.size x.es x.m.ents := by
  have hC : Try.prog.cellsOf 43 = 18 := by kernel_rfl
  have hCi : Try.prog.cellsOf 3 = 1 := by kernel_rfl
  have hCe : Try.prog.cellsOf 35 = 1 := by kernel_rfl
  have hCo : Try.prog.cellsOf 39 = 5 := by kernel_rfl
  have hCa : Try.prog.cellsOf 41 = 3 := by kernel_rfl
  obtain ⟨xs, m, _, _, hl, hlen, hg⟩ := DataW.trod_struct Try.underlying43 h
  rw [hC] at hl
  obtain ⟨c0, c1, c2, c3, c4, c5, c6, c7, c8, c9, b0, b1, b2, b3, b4, b5, b6, b7, rfl⟩ := len18 hl
  have hx : xs.length = 12 := hlen
  have h0 := hg 0 _ rfl
  have h1 := hg 1 _ rfl
  have h2 := hg 2 _ rfl
  have h3 := hg 3 _ rfl
  have h4 := hg 4 _ rfl
  have h5 := hg 5 _ rfl
  have h6 := hg 6 _ rfl
  have h7 := hg 7 _ rfl
  have h8 := hg 8 _ rfl
  have h9 := hg 9 _ rfl
  have h10 := hg 10 _ rfl
  have h11 := hg 11 _ rfl
  simp only [List.getElem_toArray, List.getElem_cons_zero, List.getElem_cons_succ] at h0 h1 h2 h3 h4 h5 h6 h7 h8 h9 h10 h11
  rw [hCi] at h0
  rw [hCi] at h1
  rw [hCi] at h2
  rw [hCi] at h3
  rw [hCi] at h4
  rw [hCi] at h5
  rw [hCi] at h6
  rw [hCi] at h7
  rw [hCi] at h8
  rw [hCe] at h9
  rw [hCo] at h10
  rw [hCa] at h11
  simp only [List.drop_zero, List.take_succ_cons, List.take_zero, List.drop_succ_cons] at h0 h1 h2 h3 h4 h5 h6 h7 h8 h9 h10 h11
  rw [List.getElem?_eq_getElem (show 0 < xs.length by omega)] at h0
  rw [List.getElem?_eq_getElem (show 1 < xs.length by omega)] at h1
  rw [List.getElem?_eq_getElem (show 2 < xs.length by omega)] at h2
  rw [List.getElem?_eq_getElem (show 3 < xs.length by omega)] at h3
  rw [List.getElem?_eq_getElem (show 4 < xs.length by omega)] at h4
  rw [List.getElem?_eq_getElem (show 5 < xs.length by omega)] at h5
  rw [List.getElem?_eq_getElem (show 6 < xs.length by omega)] at h6
  rw [List.getElem?_eq_getElem (show 7 < xs.length by omega)] at h7
  rw [List.getElem?_eq_getElem (show 8 < xs.length by omega)] at h8
  rw [List.getElem?_eq_getElem (show 9 < xs.length by omega)] at h9
  rw [List.getElem?_eq_getElem (show 10 < xs.length by omega)] at h10
  rw [List.getElem?_eq_getElem (show 11 < xs.length by omega)] at h11
  obtain ⟨z0, q0, _, _⟩ := DataW.trod_int Try.underlying3 h0
  obtain ⟨z1, q1, _, _⟩ := DataW.trod_int Try.underlying3 h1
  obtain ⟨z2, q2, _, _⟩ := DataW.trod_int Try.underlying3 h2
  obtain ⟨z3, q3, _, _⟩ := DataW.trod_int Try.underlying3 h3
  obtain ⟨z4, q4, _, _⟩ := DataW.trod_int Try.underlying3 h4
  obtain ⟨z5, q5, _, _⟩ := DataW.trod_int Try.underlying3 h5
  obtain ⟨z6, q6, _, _⟩ := DataW.trod_int Try.underlying3 h6
  obtain ⟨z7, q7, _, _⟩ := DataW.trod_int Try.underlying3 h7
  obtain ⟨z8, q8, _, _⟩ := DataW.trod_int Try.underlying3 h8
  cases q0; cases q1; cases q2; cases q3; cases q4; cases q5; cases q6; cases q7; cases q8
  obtain ⟨sl, es, rfl, hE, _⟩ := open_log h9
  obtain ⟨a, b, c, d, e, h5, _⟩ := five_of (ti := 3) Try.underlying39 (by kernel_rfl) (by kernel_rfl) rfl (by
    intro j f hf
    have hj : j < 5 := (Array.getElem?_eq_some_iff.1 hf).1
    obtain rfl | rfl | rfl | rfl | rfl : j = 0 ∨ j = 1 ∨ j = 2 ∨ j = 3 ∨ j = 4 := by omega
    all_goals
      cases hf
      exact Try.underlying3) h10
  cases h5
  obtain ⟨zs, hz, h6, _⟩ := ints_of (k := 3) Try.underlying41 (by kernel_rfl) (by kernel_rfl) rfl (by
    intro j f hf
    have hj : j < 3 := (Array.getElem?_eq_some_iff.1 hf).1
    obtain rfl | rfl | rfl : j = 0 ∨ j = 1 ∨ j = 2 := by omega
    all_goals
      cases hf
      exact Try.underlying3) h11
  obtain ⟨u0, u1, u2, rfl⟩ := len3 hz
  simp only [List.map_cons, List.map_nil] at h6
  cases h6
  exact ⟨⟨⟨z0, z1, z2, z3, z4, z5, z6, z7, z8, es⟩, sl, (a, b, c, d, e), (u0, u1, u2)⟩, rfl, hE⟩

/-- A slice of mail that comes in. -/
theorem open_mails {r : Reach} {b0 : Nat} {v : Value} {d : DataW H} {p : List MemPlace} (hv : Value.okWide Try.prog w r b0 22 v) (h : DataW.Trod enc Try.prog w base spare held 22 v d p) :
    ∃ (A : Option Addr) (l : List MailV) (c : Nat), v = .slice A l.length c ∧ l.length ≤ c ∧ c ≤ 9223372036854775807 ∧ Mails w w.heap.size A l := by
  obtain ⟨A, l, c, rfl, h1, h2, h3, h4, _⟩ := open_sl mailE (q := fun x => LogAt w w.heap.size x.es x.m.ents) (by kernel_rfl) (fun n cs y h => open_mail h) hv h
  exact ⟨A, l, c, rfl, h1, h2, h3, h4⟩
/-- One piece of mail that comes in. -/
theorem open_mail_one {r : Reach} {b0 : Nat} {v : Value} {d : DataW H} {p : List MemPlace} (hv : Value.okWide Try.prog w r b0 43 v) (h : DataW.Trod enc Try.prog w base spare held 43 v d p) :
    ∃ x : MailV, v = .agg (mailv x).toArray ∧ LogAt w w.heap.size x.es x.m.ents := by
  obtain ⟨⟨l⟩, rfl, hsz⟩ := okWide_struct Try.underlying43 hv
  obtain ⟨fuel, hf⟩ := h
  obtain ⟨x, he, hw⟩ := open_mail (cs := l) hf
  subst he
  exact ⟨x, rfl, hw⟩
end
end Go.Proofs.Ytdphfhenjndkkaa
