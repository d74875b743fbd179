/-
  The walk over chapter 19's 'lives'.
  The plain laws of what a site does: what is promised, and what stays.
  The same mail a second time: no records, and the same acknowledgement. Plain.
  The walk over chapter 19's 'beyond'.
  Records applied, and where the log lies then: new, or where the first one lay.
  An argument that is a struct by value, opened to the values of its fields.
  Slices that come in, of elements of any number of cells: entries, registers.
  A slice of numbers as an argument.
  played: what a list of mail comes to, on the code's side.
  What stays in memory while a second answer is asked for.
  The document's side: what stays when the block of its book of leases turns.
  The walks over the document's 'begins', and over 'SameRecord' of two equal records.
  The walk over the document's 'lay', where nothing is taken.
-/
import Derived.Test.YtdphfhenjndkkaaProg
import Derived.Deep.Slices
import Derived.Deep.Fields
import Derived.ChangeSame
import Derived.ProofKit
import Derived.OpenShut
import Derived.Test.YtdphfhenjndkkaaReplicasTakeK1
import Derived.Test.YtdphfhenjndkkaaReplicasTakeK2
import Derived.Test.YtdphfhenjndkkaaReplicasTakeK3
import Derived.Test.YtdphfhenjndkkaaReplicasTakeK4
import Derived.Test.YtdphfhenjndkkaaReplicasTakeK5
set_option linter.unusedSimpArgs false
set_option linter.unusedVariables false
set_option maxRecDepth 100000
namespace Go.Proofs.Ytdphfhenjndkkaa
open Go Go.RowKit Go.Sq Go.Wd Go.Arch Go.Im

def eL1 : Ent := (2, 5, 0, -1, 1, 1)
def eL2 : Ent := (2, 6, 0, -1, 2, 1)
def mL1 : MailS := ⟨1, 1, 0, 0, 2, 0, 0, 0, 7, []⟩
def mL2 : MailS := ⟨1, 2, 0, 0, 1, 0, 0, 0, 0, []⟩
def mL3 : MailS := ⟨4, 1, 0, 0, 2, 0, 0, 1, 9, [eL1, eL2]⟩
def mL4 : MailS := ⟨4, 1, 0, 0, 2, 0, 5, 0, 0, []⟩
def rL2 : RegS := ⟨2, 0, [], 0⟩
def rL4 : RegS := ⟨2, 2, [eL1, eL2], 1⟩
def gL1 : Int → Option (Int × Int) := grantL (fun _ => none) 0 2 3
theorem mayL1 : mayL 0 ((fun _ => none : Int → Option (Int × Int)) 0) 2 3 = true := rfl
theorem mayL2 : mayL 0 (gL1 0) 1 3 = false := by decide
theorem sayL1 : takeS reg0 true mL1 = ⟨[⟨1, 0, 2, 0, 0, 0, []⟩], [⟨2, 0, 1, 0, 2, 0, 0, 0, 7, []⟩], 1⟩ := rfl
theorem sayL2 : takeS rL2 false mL2 = ⟨[], [⟨3, 0, 2, 0, 2, 0, 0, 0, 0, []⟩], 0⟩ := rfl
theorem sayL3 (may : Bool) : takeS rL2 may mL3 = ⟨[⟨2, 0, 2, 0, 0, 0, [eL1, eL2]⟩, ⟨3, 0, 0, 0, 0, 1, []⟩], [⟨5, 0, 1, 0, 2, 0, 0, 2, 9, []⟩], 1⟩ := rfl
theorem sayL4 (may : Bool) : takeS rL4 may mL4 = ⟨[], [⟨6, 0, 1, 0, 2, 0, 0, 2, 0, []⟩], 0⟩ := rfl

theorem map_one {α β : Type} {f : α → β} {l : List α} {b : β} (h : l.map f = [b]) : ∃ a, l = [a] ∧ f a = b := by
  match l, h with
  | [a], h => exact ⟨a, rfl, by simpa using h⟩
theorem map_two {α β : Type} {f : α → β} {l : List α} {b c : β} (h : l.map f = [b, c]) : ∃ a d, l = [a, d] ∧ f a = b ∧ f d = c := by
  match l, h with
  | [a, d], h => exact ⟨a, d, rfl, by simpa using h⟩
theorem map_none {α β : Type} {f : α → β} {l : List α} (h : l.map f = []) : l = [] := List.map_eq_nil_iff.1 h
/-- The one piece of mail. -/
theorem mail_one_at {w : World} {A : Option Addr} {y : MailV} (h : Mails w w.heap.size A [y]) : ∃ b o, A = some ⟨b, o, none⟩ ∧ (w.cell? ⟨b, o, none⟩ = some (.int .i64 y.m.kind) ∧ w.cell? ⟨b, o + 2, none⟩ = some (.int .i64 y.m.to) ∧ w.cell? ⟨b, o + 4, none⟩ = some (.int .i64 y.m.epoch) ∧ w.cell? ⟨b, o + 7, none⟩ = some (.int .i64 y.m.len) ∧ w.cell? ⟨b, o + 8, none⟩ = some (.int .i64 y.m.stamp)) := by
  obtain ⟨b, o, x, ha, hx, _, hc, _⟩ := h.at_ (k := 0) (by simp)
  obtain rfl : y = x := Option.some.inj hx.out
  refine ⟨b, o, ha, ?_⟩
  have h := hc w (Below.refl _ _)
  rw [Nat.zero_mul, Nat.add_zero] at h
  exact ⟨h 0 (by omega), h 2 (by omega), h 4 (by omega), h 7 (by omega), h 8 (by omega)⟩
/-- The k-th record. -/
theorem rec_cells {w : World} {A : Option Addr} {l : List RecV} (h : Rcs w w.heap.size A l) {k : Nat} {y : RecV} (hk : l[k]? = some y) : ∃ b o, A = some ⟨b, o, none⟩ ∧ w.cell? ⟨b, o + k * 8, none⟩ = some (.int .i64 y.kind) ∧ w.cell? ⟨b, o + k * 8 + 2, none⟩ = some (.int .i64 y.epoch) ∧ w.cell? ⟨b, o + k * 8 + 5, none⟩ = some (.int .i64 y.len) := by
  obtain ⟨b, o, x, ha, hx, hc, _⟩ := h.at8 (List.getElem?_eq_some_iff.1 hk).1
  obtain rfl : y = x := by have := hx.out; rw [hk] at this; exact Option.some.inj this
  obtain ⟨c0, c1, c2, c3, c4, c5, _⟩ := hc w (Below.refl _ _)
  exact ⟨b, o, ha, c0, c2, c5⟩

def mV (m : MailS) (s : SlcE) : MailV := ⟨m, s, (0, 0, 0, 0, 0), (0, 0, 0)⟩
theorem log_two (w : World) (g : Nat) (a b : Ent) (h : Blk w g 64 (vals a ++ vals b)) : LogAt w w.heap.size (some ⟨g, 0, none⟩, 2, 2) [a, b] := by
  refine ⟨rfl, Nat.le_refl _, by simp, fun _ => ⟨g, 0, rfl, h.lt, fun i x hx => ?_⟩⟩
  have hi := (List.getElem?_eq_some_iff.1 hx).1
  have h2 : i = 0 ∨ i = 1 := by simp at hi; omega
  rcases h2 with rfl | rfl
  · obtain rfl : a = x := Option.some.inj hx
    exact ⟨h.cell 0, h.cell 1, h.cell 2, h.cell 3, h.cell 4, h.cell 5⟩
  · obtain rfl : b = x := Option.some.inj hx
    exact ⟨h.cell 6, h.cell 7, h.cell 8, h.cell 9, h.cell 10, h.cell 11⟩
/-- What stands between two calls. -/
def LvI (w W : World) (b m n : Nat) (G : Int → Option (Int × Int)) : Prop := Below w.heap.size w W ∧ LogAt W W.heap.size (some ⟨w.heap.size + 1, 0, none⟩, 2, 2) [eL1, eL2] ∧ Bk W b m n 0 G ∧ w.heap.size ≤ m
theorem LvI.take {w W W' : World} {b m n n' : Nat} {G G' : Int → Option (Int × Int)} (h : LvI w W b m n G) (hB : Bk W' b m n' 0 G') (hK : Kept W W' (some m) none) : LvI w W' b m n' G' :=
  ⟨h.1.trans (hK.below (B := w.heap.size) (fun k e => by cases e; exact h.2.2.2) (fun k e => by cases e) h.1.size), h.2.1.turned h.2.2.1 hK, hB, h.2.2.2⟩
theorem LvI.keep {w W W' : World} {b m n : Nat} {G : Int → Option (Int × Int)} (h : LvI w W b m n G) (hb : Below W.heap.size W W') : LvI w W' b m n G :=
  ⟨below_trans h.1 hb h.1.size, h.2.1.keep hb, h.2.2.1.below hb, h.2.2.2⟩

set_option maxHeartbeats 8000000 in
theorem lives19_any (w : World) : Calls Try.prog 11 #[] w fun e w' => e = .returned (.bool true) ∧ Below w.heap.size w w' := by
  go_enter Try.func11, Try.ntmps11
  go_wp2_with ((with_reducible refine at_list ?_); (with_reducible refine cut_at 13 rfl ?_))
  refine Cut.go ?_
  refine abs_list (fun W => Below w.heap.size w W ∧ Blk W (w.heap.size + 1) 64 (vals eL1 ++ vals eL2)) ⟨((Below.refl _ _).alloc (Nat.le_refl _) _).alloc (by simp) _, Blk.newAt _ _ (vals eL1 ++ vals eL2) (by simp)⟩ ?_
  rintro w0 ⟨hw0, hE0⟩
  have H0 := Lib.hid (And.intro hw0 (log_two w0 _ eL1 eL2 hE0))
  clear hw0 hE0
  go_wp2_with fail
  refine (lnew_any 0 (by decide) false _).mono ?_
  rintro e w1 ⟨b, m, rfl, hB, hb1, hbb, hbm⟩
  have H1 := Lib.hid (show LvI w w1 b m 0 (fun _ => none) from ⟨below_trans H0.out.1 hb1 H0.out.1.size, H0.out.2.keep hb1, hB, by have := H0.out.1.size; omega⟩)
  clear hB hb1 hbb hbm H0
  go_wp2_with fail
  have hT := take_any reg0 (none, 0, 0) b m 0 0 (fun _ => none) (mV mL1 (none, 0, 0)) 3 w1 H1.out.2.2.1 (by unfold maxLen; omega) (by decide) LogAt.nil LogAt.nil (by decide)
  have hs : takeS reg0 (mayL 0 ((fun _ => none : Int → Option (Int × Int)) (mV mL1 (none, 0, 0)).m.stream) (mV mL1 (none, 0, 0)).m.epoch 3) (mV mL1 (none, 0, 0)).m = ⟨[⟨1, 0, 2, 0, 0, 0, []⟩], [⟨2, 0, 1, 0, 2, 0, 0, 0, 7, []⟩], 1⟩ := sayL1
  rw [hs] at hT
  have HT := Lib.hid hT
  clear hT hs
  refine HT.out.mono ?_
  clear HT
  rintro e w2 ⟨⟨A1, c1, A2, c2, xs, ys, rfl, hR, hM, hxs, hys, -, -⟩, hB2, hK2⟩
  obtain ⟨x1, rfl, hx1⟩ := map_one hxs
  obtain ⟨y1, rfl, hy1⟩ := map_one hys
  have H2 := Lib.hid (show LvI w w2 b m 1 gL1 from H1.out.take hB2 hK2)
  obtain ⟨b3, o3, rfl, k0, k2, k5⟩ := rec_cells hR (k := 0) rfl
  obtain ⟨b4, o4, rfl, n0, n2, n4, n7, n8⟩ := mail_one_at hM
  rw [Nat.zero_mul, Nat.add_zero] at k0 k2
  rw [show x1.kind = 1 from congrArg RecS.kind hx1] at k0
  rw [show x1.epoch = 2 from congrArg RecS.epoch hx1] at k2
  rw [show y1.m.kind = 2 from congrArg MailS.kind hy1] at n0
  rw [show y1.m.to = 1 from congrArg MailS.to hy1] at n2
  rw [show y1.m.stamp = 7 from congrArg MailS.stamp hy1] at n8
  clear hR hM hxs hys hx1 hy1 hB2 hK2 k5 n4 n7 H1
  go_wp2_with ((with_reducible refine at_list ?_); (with_reducible refine cut_at 66 rfl ?_))
  refine Cut.go ?_
  clear k0 k2 n0 n2 n8
  refine abs_list (fun W => LvI w W b m 1 gL1 ∧ Blk W w2.heap.size 37 (rgv rL2 (none, 0, 0))) ⟨H2.out.keep ((Below.refl _ _).alloc (Nat.le_refl _) _), Blk.new w2 37 (rgv rL2 (none, 0, 0))⟩ ?_
  have hgw := H2.out.1.size
  clear H2
  rintro w3 h3
  have H3 := Lib.hid h3
  clear h3
  generalize w2.heap.size = gt at H3 hgw ⊢
  have hT := take_any rL2 (none, 0, 0) b m 1 0 gL1 (mV mL2 (none, 0, 0)) 3 w3 H3.out.1.2.2.1 (by unfold maxLen; omega) (by decide) LogAt.nil LogAt.nil (by decide)
  have hs : takeS rL2 (mayL 0 (gL1 (mV mL2 (none, 0, 0)).m.stream) (mV mL2 (none, 0, 0)).m.epoch 3) (mV mL2 (none, 0, 0)).m = ⟨[], [⟨3, 0, 2, 0, 2, 0, 0, 0, 0, []⟩], 0⟩ := by
    rw [show mayL 0 (gL1 (mV mL2 (none, 0, 0)).m.stream) (mV mL2 (none, 0, 0)).m.epoch 3 = false from mayL2]
    exact sayL2
  rw [hs] at hT
  have HT := Lib.hid hT
  clear hT hs
  go_wp2_with ((with_reducible refine at_list ?_); first | refine wpList_load_blk rfl 37 _ rfl _ rfl _ _ _ (H3.out.2) Try.underlying37 rfl rg_info ?_)
  refine HT.out.mono ?_
  clear HT
  rintro e w4 ⟨⟨A1, c1, A2, c2, xs, ys, rfl, hR, hM, hxs, hys, -, -⟩, hB4, hK4⟩
  obtain ⟨y1, rfl, hy1⟩ := map_one hys
  have H4 := Lib.hid (And.intro (show LvI w w4 b m 2 gL1 from H3.out.1.take hB4 hK4) (hK4.blk H3.out.2 (fun e => H3.out.1.2.2.1.notBlk H3.out.2 (Option.some.inj e)) (by simp)))
  obtain ⟨b4, o4, rfl, n0, n2, n4, n7, n8⟩ := mail_one_at hM
  rw [show y1.m.kind = 3 from congrArg MailS.kind hy1] at n0
  rw [show y1.m.epoch = 2 from congrArg MailS.epoch hy1] at n4
  clear hR hM hxs hys hy1 hB4 hK4 n2 n7 n8 H3
  have hT := take_any rL2 (none, 0, 0) b m 2 0 gL1 (mV mL3 (some ⟨w.heap.size + 1, 0, none⟩, 2, 2)) 3 w4 H4.out.1.2.2.1 (by unfold maxLen; omega) (by decide) LogAt.nil H4.out.1.2.1 (show (2 : Nat) ≤ 1000 from by decide)
  have hs := sayL3 (mayL 0 (gL1 (mV mL3 (some ⟨w.heap.size + 1, 0, none⟩, 2, 2)).m.stream) (mV mL3 (some ⟨w.heap.size + 1, 0, none⟩, 2, 2)).m.epoch 3)
  rw [show takeS rL2 (mayL 0 (gL1 (mV mL3 (some ⟨w.heap.size + 1, 0, none⟩, 2, 2)).m.stream) (mV mL3 (some ⟨w.heap.size + 1, 0, none⟩, 2, 2)).m.epoch 3) (mV mL3 (some ⟨w.heap.size + 1, 0, none⟩, 2, 2)).m = _ from hs] at hT
  have HT := Lib.hid hT
  clear hT hs
  go_wp2_with ((with_reducible refine at_list ?_); first | refine wpList_load_blk rfl 37 _ rfl _ rfl _ _ _ (H4.out.2) Try.underlying37 rfl rg_info ?_)
  clear n0 n4
  refine HT.out.mono ?_
  clear HT
  rintro e w5 ⟨⟨A1, c1, A2, c2, xs, ys, rfl, hR, hM, hxs, hys, -, -⟩, hB5, hK5⟩
  obtain ⟨x1, x2, rfl, hx1, hx2⟩ := map_two hxs
  obtain ⟨y1, rfl, hy1⟩ := map_one hys
  have H5 := Lib.hid (And.intro (show LvI w w5 b m 3 (grantL gL1 0 2 3) from H4.out.1.take hB5 hK5) (hK5.blk H4.out.2 (fun e => H4.out.1.2.2.1.notBlk H4.out.2 (Option.some.inj e)) (by simp)))
  obtain ⟨b3, o3, rfl, k0, k2, k5⟩ := rec_cells hR (k := 1) rfl
  obtain ⟨b4, o4, rfl, n0, n2, n4, n7, n8⟩ := mail_one_at hM
  rw [Nat.one_mul] at k0 k5
  rw [show x2.kind = 3 from congrArg RecS.kind hx2] at k0
  rw [show x2.len = 1 from congrArg RecS.len hx2] at k5
  rw [show y1.m.kind = 5 from congrArg MailS.kind hy1] at n0
  rw [show y1.m.len = 2 from congrArg MailS.len hy1] at n7
  rw [show y1.m.stamp = 9 from congrArg MailS.stamp hy1] at n8
  clear hR hM hxs hys hx1 hx2 hy1 hB5 hK5 k2 n2 n4 H4
  go_wp2_with ((with_reducible refine at_list ?_); first | (with_reducible refine cut_at 143 rfl ?_) | (refine wpList_store_own rfl 37 _ _ rfl _ (rgv rL4 (some ⟨w.heap.size + 1, 0, none⟩, 2, 2)) rfl rfl _ _ (H5.out.2) rg_info rfl (rgv_one _ _) ?_; intro w6 B6 g6))
  refine Cut.go ?_
  clear k0 k5 n0 n7 n8
  have hl6 := H5.out.1.2.1.stored H5.out.2 (by simp [rgv]) g6
  have hb6 : Below w.heap.size w w6 := H5.out.1.1.trans (below_grown g6 hgw H5.out.1.1.size)
  have hk6 : Bk w6 b m 3 0 (grantL gL1 0 2 3) := H5.out.1.2.2.1.kept g6 (fun e => by
    have h1 := H5.out.2
    have h2 := H5.out.1.2.2.1.1
    cases e
    unfold Blk at h1
    simp [World.cell?, h1, rgv] at h2) (fun e => H5.out.1.2.2.1.notBlk H5.out.2 (Option.some.inj e).symm)
  have H6 := Lib.hid (And.intro (show LvI w w6 b m 3 (grantL gL1 0 2 3) from ⟨hb6, hl6, hk6, H5.out.1.2.2.2⟩) B6)
  clear hl6 hb6 hk6 B6 g6 H5
  have hT := take_any rL4 (some ⟨w.heap.size + 1, 0, none⟩, 2, 2) b m 3 0 (grantL gL1 0 2 3) (mV mL4 (none, 0, 0)) 3 w6 H6.out.1.2.2.1 (by unfold maxLen; omega) (by decide) H6.out.1.2.1 LogAt.nil (by decide)
  have hs := sayL4 (mayL 0 (grantL gL1 0 2 3 (mV mL4 (none, 0, 0)).m.stream) (mV mL4 (none, 0, 0)).m.epoch 3)
  rw [show takeS rL4 (mayL 0 (grantL gL1 0 2 3 (mV mL4 (none, 0, 0)).m.stream) (mV mL4 (none, 0, 0)).m.epoch 3) (mV mL4 (none, 0, 0)).m = _ from hs] at hT
  have HT := Lib.hid hT
  clear hT hs
  go_wp2_with ((with_reducible refine at_list ?_); first | refine wpList_load_blk rfl 37 _ rfl _ rfl _ _ _ (H6.out.2) Try.underlying37 rfl rg_info ?_)
  refine HT.out.mono ?_
  clear HT
  rintro e w7 ⟨⟨A1, c1, A2, c2, xs, ys, rfl, hR, hM, hxs, hys, -, -⟩, hB7, hK7⟩
  obtain rfl := map_none hxs
  obtain ⟨y1, rfl, hy1⟩ := map_one hys
  have H7 := Lib.hid (H6.out.1.take hB7 hK7).1
  obtain ⟨b4, o4, rfl, n0, n2, n4, n7, n8⟩ := mail_one_at hM
  rw [show y1.m.kind = 6 from congrArg MailS.kind hy1] at n0
  rw [show y1.m.len = 2 from congrArg MailS.len hy1] at n7
  clear hR hM hxs hys hy1 hB7 hK7 n2 n4 n8 H6
  go_wp2_with fail
  go_ret
  exact ⟨rfl, H7.out⟩
end Go.Proofs.Ytdphfhenjndkkaa

set_option linter.unusedSimpArgs false
set_option linter.unusedVariables false
set_option maxRecDepth 100000
namespace Go.Proofs.Ytdphfhenjndkkaa
open Go Go.RowKit Go.Sq Go.Wd Go.Arch

/-- What stays of a register. -/
def StaysR (r n : RegS) : Prop := mayR n = true ∧ r.com ≤ n.com ∧ n.log.take r.com.toNat = r.log.take r.com.toNat
theorem may_com {r : RegS} (h : mayR r = true) : 0 ≤ r.com ∧ r.com ≤ r.log.length ∧ r.log.length ≤ 64 := by
  obtain ⟨_, h2, h3, h4⟩ := (mayR_iff r).1 h
  exact ⟨h3, h4, ((okLog_iff _ _).1 h2).1⟩
theorem stays_refl {r : RegS} (h : mayR r = true) : StaysR r r := ⟨h, Int.le_refl _, rfl⟩
theorem stays_trans {r n q : RegS} (h : StaysR r n) (h' : StaysR n q) : StaysR r q := by
  refine ⟨h'.1, Int.le_trans h.2.1 h'.2.1, ?_⟩
  have h2 := congrArg (List.take r.com.toNat) h'.2.2
  rw [List.take_take, List.take_take, Nat.min_eq_left (by have := h.2.1; omega)] at h2
  rw [h2, h.2.2]
theorem stays_apply {r a : RegS} {x : RecS} (h : applyR r x = some a) : StaysR r a := by
  have h1 := apply_stays h
  have hc := may_com (apply_may h)
  have hle : r.com.toNat ≤ keepsR r a := by
    unfold keepsR
    split <;> omega
  have h2 := congrArg (List.take r.com.toNat) h1.2.2.2.2.2
  rw [List.take_take, List.take_take, Nat.min_eq_left hle] at h2
  exact ⟨h1.1, h1.2.2.2.1, h2⟩
theorem stays_applied (S : List RecS) (r : RegS) (h : mayR r = true) : StaysR r (appliedS r S) := by
  induction S generalizing r with
  | nil => exact stays_refl h
  | cons x S ih =>
    show StaysR r (appliedS ((applyR r x).getD r) S)
    cases hA : applyR r x with
    | none => exact ih r h
    | some a => exact stays_trans (stays_apply hA) (ih a (stays_apply hA).1)
/-- Mail that promises, or acknowledges, is of an epoch that may be. -/
def KindOk (r : RegS) (m y : MailS) : Prop := (y.kind = 2 ∨ y.kind = 5) → ¬ m.epoch < r.prom ∧ y.to = m.from_ ∧ y.from_ = m.to ∧ y.stamp = m.stamp
theorem take_kinds (r : RegS) (may : Bool) (m : MailS) : ∀ y ∈ (takeS r may m).back, KindOk r m y := by
  intro y hy
  unfold takeS at hy
  split at hy
  case isFalse => cases hy
  split at hy
  · unfold prepS at hy
    split at hy
    case isTrue h =>
      rw [List.mem_singleton.1 hy]
      exact fun _ => ⟨by omega, rfl, rfl, rfl⟩
    case isFalse h =>
      rw [List.mem_singleton.1 hy]
      intro h
      rcases h with h | h <;> cases h
  · split at hy
    · unfold layS at hy
      split at hy
      · rw [List.mem_singleton.1 hy]
        intro h
        rcases h with h | h <;> cases h
      case isFalse h1 =>
      split at hy
      · rw [List.mem_singleton.1 hy]
        intro h
        rcases h with h | h <;> cases h
      split at hy
      · cases hy
      · rw [List.mem_singleton.1 hy]
        exact fun _ => ⟨h1, rfl, rfl, rfl⟩
    · split at hy <;> cases hy
theorem take_below (r : RegS) (may : Bool) (m : MailS) (h : m.epoch < r.prom) : (takeS r may m).recs = [] := by
  unfold takeS
  split
  case isFalse => rfl
  split
  · unfold prepS
    rw [if_neg (by omega)]
  · split
    · unfold layS
      rw [if_pos h]
    · split <;> rfl
theorem take_ents (r : RegS) (may : Bool) (m : MailS) : ∀ y ∈ (takeS r may m).recs, y.ents.length ≤ r.log.length + m.ents.length := by
  intro y hy
  unfold takeS at hy
  split at hy
  case isFalse => cases hy
  split at hy
  · unfold prepS at hy
    split at hy
    · rw [List.mem_singleton.1 hy]; simp [recP]
    · cases hy
  · split at hy
    · unfold layS at hy
      split at hy
      · cases hy
      split at hy
      · cases hy
      split at hy
      · cases hy
      case h_2 l q hg =>
        rcases List.mem_append.1 hy with h | h
        · unfold grownS at hg
          split at hg
          · split at hg
            · cases hg; cases h
            · split at hg
              · cases hA : applyR r (recV m r.log.length ((joinM r m).drop r.log.length)) with
                | none => rw [hA] at hg; cases hg
                | some a =>
                  rw [hA] at hg
                  cases hg
                  rw [List.mem_singleton.1 h]
                  show ((joinM r m).drop r.log.length).length ≤ _
                  unfold joinM
                  rw [List.length_drop, List.length_append, List.length_take]
                  omega
              · cases hg
          · cases hA : applyR r (recV m m.base m.ents) with
            | none => rw [hA] at hg; cases hg
            | some a =>
              rw [hA] at hg
              cases hg
              rw [List.mem_singleton.1 h]
              show m.ents.length ≤ _
              omega
        · unfold comS at h
          split at h
          · rw [List.mem_singleton.1 h]; simp [recC]
          · cases h
    · split at hy <;> cases hy
theorem take_few (r : RegS) (may : Bool) (m : MailS) : (takeS r may m).recs.length ≤ 2 ∧ (takeS r may m).back.length ≤ 1 := by
  unfold takeS
  split
  case isFalse => exact ⟨by simp [nothing], by simp [nothing]⟩
  split
  · unfold prepS
    split <;> exact ⟨by simp, by simp⟩
  · split
    · unfold layS
      split
      · exact ⟨by simp, by simp⟩
      split
      · exact ⟨by simp, by simp⟩
      split
      · exact ⟨by simp [nothing], by simp [nothing]⟩
      case h_2 l q hg =>
        have h1 := grown_few hg
        have h2 : (comS q m).length ≤ 1 := by unfold comS; split <;> simp
        exact ⟨by show (l ++ comS q m).length ≤ 2; rw [List.length_append]; omega, by simp⟩
    · split <;> exact ⟨by simp [nothing], by simp [nothing]⟩
theorem same_sl (l m : List Ent) (sl sm : SlcE) (w : World) (hl : LogAt w w.heap.size sl l) (hm : LogAt w w.heap.size sm m) (h : l = m) :
    Calls Try.prog 22 #[.slice sl.1 sl.2.1 sl.2.2, .slice sm.1 sm.2.1 sm.2.2] w fun e w' => e = .returned (.bool true) ∧ Below w.heap.size w w' := by
  subst h
  obtain ⟨A, n, c⟩ := sl
  obtain ⟨B, k, d⟩ := sm
  obtain rfl : n = l.length := hl.1
  obtain rfl : k = l.length := hm.1
  have hs := same_any l l A B c d w hl.2.2.2 hm.2.2.2 (Nat.le_trans hl.2.1 hl.2.2.1) (Nat.le_trans hm.2.1 hm.2.2.1)
  rw [decide_eq_true rfl] at hs
  exact hs
/-- Mail of stream 1. -/
def st1 (x : MailV) : MailV := ⟨{ x.m with stream := 1 }, x.es, x.o, x.an⟩
theorem st1_set (x : MailV) : (mailv x).set 3 (.int .i64 1) = mailv (st1 x) := rfl
/-- Between two pieces of mail: the register, the book. -/
def RfI (w W : World) (gr : Nat) (r : RegS) (s : SlcE) (b m n : Nat) (g0 : Int) (G : Int → Option (Int × Int)) : Prop :=
  Below w.heap.size w W ∧ Blk W gr 37 (rgv r s) ∧ LogAt W W.heap.size s r.log ∧ Bk W b m n g0 G ∧ w.heap.size ≤ m ∧ w.heap.size ≤ gr
theorem RfI.keep {w W W' : World} {gr : Nat} {r : RegS} {s : SlcE} {b m n : Nat} {g0 : Int} {G : Int → Option (Int × Int)} (h : RfI w W gr r s b m n g0 G) (hb : Below W.heap.size W W') : RfI w W' gr r s b m n g0 G :=
  ⟨below_trans h.1 hb h.1.size, h.2.1.keep hb, h.2.2.1.keep hb, h.2.2.2.1.below hb, h.2.2.2.2⟩
theorem RfI.take {w W W' : World} {gr : Nat} {r : RegS} {s : SlcE} {b m n n' : Nat} {g0 : Int} {G G' : Int → Option (Int × Int)} (h : RfI w W gr r s b m n g0 G) (hB : Bk W' b m n' g0 G') (hK : Kept W W' (some m) none) : RfI w W' gr r s b m n' g0 G' :=
  ⟨h.1.trans (hK.below (B := w.heap.size) (fun k e => by cases e; exact h.2.2.2.2.1) (fun k e => by cases e) h.1.size), hK.blk h.2.1 (fun e => h.2.2.2.1.notBlk h.2.1 (Option.some.inj e)) (by simp), h.2.2.1.turned h.2.2.2.1 hK, hB, h.2.2.2.2⟩
theorem Bk.other {w w' : World} {b m n g : Nat} {gr : Int} {G : Int → Option (Int × Int)} {T : TypeId} {cs : List Value} (h : Bk w b m n gr G) (hZ : Blk w g T cs) (hT : ∃ z, cs[0]? = some (.int .i64 z)) (hg : w.grownBy w' (some g)) : Bk w' b m n gr G :=
  h.kept hg (fun e => by
    have h2 := h.1
    obtain ⟨z, hz⟩ := hT
    cases e
    rw [hZ.cell, hz] at h2
    cases h2) (fun e => h.notBlk hZ (Option.some.inj e).symm)
/-- The register overwritten. -/
theorem RfI.put {w W W' : World} {gr : Nat} {r q : RegS} {s s' : SlcE} {b m n : Nat} {g0 : Int} {G : Int → Option (Int × Int)} (h : RfI w W gr r s b m n g0 G) (hq : LogAt W W.heap.size s' q.log) (hB : Blk W' gr 37 (rgv q s')) (hg : W.grownBy W' (some gr)) : RfI w W' gr q s' b m n g0 G :=
  ⟨h.1.trans (below_grown hg h.2.2.2.2.2 h.1.size), hB, hq.stored h.2.1 (by simp [rgv]) hg, h.2.2.2.1.other h.2.1 ⟨_, rfl⟩ hg, h.2.2.2.2⟩
end Go.Proofs.Ytdphfhenjndkkaa

set_option linter.unusedSimpArgs false
set_option linter.unusedVariables false
set_option maxRecDepth 100000
namespace Go.Proofs.Ytdphfhenjndkkaa
open Go Go.Arch

theorem view_one {r q : RegS} {x : RecS} (hk : x.kind = 2) (h : applyR r x = some q) : q = ⟨x.epoch, x.epoch, logR r x, r.com⟩ := by
  unfold applyR at h
  split at h
  case isFalse => cases h
  rw [hk] at h
  simp only [if_neg (show ¬ (2 : Int) = 1 by decide), if_true] at h
  unfold viewR at h
  split at h
  · exact (Option.some.inj h).symm
  · cases h
/-- Behind an owner's entries the register reads as he said. -/
theorem grown_again {r q : RegS} {m : MailS} {l : List RecS} (hg : grownS r m = some (l, q)) (h1 : ¬ m.epoch < r.prom) (h2 : ¬ ((r.view < m.epoch ∧ 0 < m.base) ∨ (r.log.length : Int) < m.base)) (hb : 0 ≤ m.base) (hv : r.view ≤ r.prom) :
    appliedS r l = q ∧ q.view = m.epoch ∧ q.prom ≤ m.epoch ∧ m.base ≤ q.log.length ∧ joinM q m <+: q.log := by
  unfold grownS at hg
  split at hg
  case isTrue he =>
    split at hg
    case isTrue hp =>
      obtain ⟨rfl, rfl⟩ := Prod.mk.inj (Option.some.inj hg)
      exact ⟨rfl, he.symm, by omega, by omega, hp⟩
    case isFalse hp =>
      split at hg
      case isFalse => cases hg
      case isTrue hq =>
        cases hA : applyR r (recV m r.log.length ((joinM r m).drop r.log.length)) with
        | none => rw [hA] at hg; cases hg
        | some a =>
          rw [hA] at hg
          obtain ⟨rfl, rfl⟩ := Prod.mk.inj (Option.some.inj hg)
          have hv1 := view_one rfl hA
          have hlog : a.log = joinM r m := by
            rw [hv1]
            show r.log.take (fromR r _) ++ (joinM r m).drop r.log.length = _
            have hf : fromR r (recV m r.log.length ((joinM r m).drop r.log.length)) = r.log.length := if_pos he
            rw [hf, List.take_length]
            obtain ⟨t, ht⟩ := hq
            rw [← ht, List.drop_left]
          refine ⟨by show (applyR r _).getD r = a; rw [hA]; rfl, by rw [hv1]; rfl, by rw [hv1]; exact Int.le_refl _, ?_, ?_⟩
          · rw [hlog]; unfold joinM; rw [List.length_append, List.length_take]; omega
          · unfold joinM
            rw [hlog]
            unfold joinM
            rw [List.take_append_of_le_length (by rw [List.length_take]; omega), List.take_take, Nat.min_self]
            exact List.prefix_rfl
  case isFalse he =>
    cases hA : applyR r (recV m m.base m.ents) with
    | none => rw [hA] at hg; cases hg
    | some a =>
      rw [hA] at hg
      obtain ⟨rfl, rfl⟩ := Prod.mk.inj (Option.some.inj hg)
      have hv1 := view_one rfl hA
      have hb0 : m.base = 0 := by omega
      have hlog : a.log = m.ents := by
        rw [hv1]
        show r.log.take (fromR r _) ++ m.ents = _
        have hf : fromR r (recV m m.base m.ents) = 0 := if_neg he
        rw [hf]; simp
      refine ⟨by show (applyR r _).getD r = a; rw [hA]; rfl, by rw [hv1]; rfl, by rw [hv1]; exact Int.le_refl _, by omega, ?_⟩
      unfold joinM
      rw [hlog, hb0]
      simp
/-- The commit, and no more of it. -/
theorem com_again {q : RegS} {m : MailS} (h : mayR q = true) : ∃ c, appliedS q (comS q m) = { q with com := c } ∧ comS { q with com := c } m = [] := by
  unfold comS
  by_cases hc : q.com < min m.len q.log.length
  · rw [if_pos hc]
    refine ⟨min m.len q.log.length, ?_, if_neg (by show ¬ min m.len (q.log.length : Int) < min m.len q.log.length; omega)⟩
    show (applyR q (recC q m)).getD q = _
    unfold applyR
    rw [if_pos h, if_neg (by show ¬ (3 : Int) = 1; decide), if_neg (by show ¬ (3 : Int) = 2; decide), if_pos (by rfl), if_pos (by show q.com < min m.len q.log.length ∧ min m.len (q.log.length : Int) ≤ q.log.length; omega)]
    rfl
  · rw [if_neg hc]
    exact ⟨q.com, rfl, if_neg hc⟩
theorem applied_app (l m : List RecS) (r : RegS) : appliedS r (l ++ m) = appliedS (appliedS r l) m := by
  unfold appliedS
  rw [List.foldl_append]

/-- The law. -/
theorem take_again (r : RegS) (may may2 : Bool) (m : MailS) (h : mayR r = true) (ha : (takeS r may m).act = 0 → may2 = may) :
    (takeS (appliedS r (takeS r may m).recs) may2 m).recs = [] ∧ (m.kind = 4 → ∀ b, (takeS r may m).back = [b] → b.kind = 5 → (takeS (appliedS r (takeS r may m).recs) may2 m).back = [b]) := by
  have stay : (takeS r may m).act = 0 → (takeS r may m).recs = [] → (takeS (appliedS r (takeS r may m).recs) may2 m).recs = [] ∧ (m.kind = 4 → ∀ b, (takeS r may m).back = [b] → b.kind = 5 → (takeS (appliedS r (takeS r may m).recs) may2 m).back = [b]) := fun h0 h1 => by
    rw [h1, ha h0]
    exact ⟨h1, fun _ b hb _ => hb⟩
  by_cases ho : mailOk r m
  case neg =>
    have e : takeS r may m = nothing := if_neg ho
    exact stay (by rw [e]; rfl) (by rw [e]; rfl)
  case pos =>
    by_cases k1 : m.kind = 1
    · have e : takeS r may m = prepS r may m := by unfold takeS; rw [if_pos ho, if_pos k1]
      by_cases hp : may = true ∧ r.prom < m.epoch
      case neg =>
        have e2 : prepS r may m = ⟨[], [refM r m], 0⟩ := if_neg hp
        exact stay (by rw [e, e2]) (by rw [e, e2])
      case pos =>
        refine ⟨?_, fun h4 => by omega⟩
        have e2 : prepS r may m = ⟨[recP m], [promM r m], 1⟩ := if_pos hp
        rw [e, e2]
        have hA : appliedS r [recP m] = { r with prom := m.epoch } := by
          show (applyR r (recP m)).getD r = _
          unfold applyR
          rw [if_pos h, if_pos (by rfl), if_pos ⟨hp.2, ho.2.2.2.2.2⟩]
          rfl
        show (takeS (appliedS r [recP m]) may2 m).recs = []
        rw [hA]
        unfold takeS
        split
        case isFalse => rfl
        unfold prepS
        rw [if_neg (by show ¬ (may2 = true ∧ m.epoch < m.epoch); omega)]
    · by_cases k4 : m.kind = 4
      · have e : takeS r may m = layS r m := by unfold takeS; rw [if_pos ho, if_neg k1, if_pos k4]
        by_cases h1 : m.epoch < r.prom
        · have e2 : layS r m = ⟨[], [refM r m], 0⟩ := if_pos h1
          exact stay (by rw [e, e2]) (by rw [e, e2])
        by_cases h2 : (r.view < m.epoch ∧ 0 < m.base) ∨ (r.log.length : Int) < m.base
        · have e2 : layS r m = ⟨[], [gapM r m], 0⟩ := by unfold layS; rw [if_neg h1, if_pos h2]
          exact stay (by rw [e, e2]) (by rw [e, e2])
        cases hg : grownS r m with
        | none =>
          have e2 : layS r m = nothing := by unfold layS; rw [if_neg h1, if_neg h2, hg]
          exact stay (by rw [e, e2]; rfl) (by rw [e, e2]; rfl)
        | some x =>
          obtain ⟨l, q⟩ := x
          have e2 : layS r m = ⟨l ++ comS q m, [ackM q m], 1⟩ := by unfold layS; rw [if_neg h1, if_neg h2, hg]
          rw [e, e2]
          obtain ⟨g1, g2, g3, g4, g5⟩ := grown_again hg h1 h2 ho.2.2.2.1 ((mayR_iff r).1 h).1.2.1
          have hm := (stays_applied l r h).1
          rw [g1] at hm
          obtain ⟨c, c1, c2⟩ := com_again (m := m) hm
          have hA : appliedS r (l ++ comS q m) = { q with com := c } := by rw [applied_app, g1, c1]
          show (takeS (appliedS r (l ++ comS q m)) may2 m).recs = [] ∧ (m.kind = 4 → ∀ b, [ackM q m] = [b] → b.kind = 5 → (takeS (appliedS r (l ++ comS q m)) may2 m).back = [b])
          rw [hA]
          have hm2 : mayR { q with com := c } = true := by
            have := (stays_applied (l ++ comS q m) r h).1
            rw [hA] at this
            exact this
          have ho2 : mailOk { q with com := c } m := ⟨hm2, ho.2⟩
          have hg2 : grownS { q with com := c } m = some ([], { q with com := c }) := by
            unfold grownS
            rw [if_pos (by exact g2.symm), if_pos (by exact g5)]
          have e3 : takeS { q with com := c } may2 m = ⟨[], [ackM q m], 1⟩ := by
            unfold takeS
            rw [if_pos ho2, if_neg k1, if_pos k4]
            unfold layS
            rw [if_neg (by show ¬ m.epoch < q.prom; omega), if_neg (by show ¬ ((q.view < m.epoch ∧ 0 < m.base) ∨ (q.log.length : Int) < m.base); omega), hg2]
            show (⟨[] ++ comS { q with com := c } m, [ackM { q with com := c } m], 1⟩ : Said) = _
            rw [c2]
            rfl
          rw [e3]
          exact ⟨rfl, fun _ b hb _ => hb⟩
      · refine ⟨?_, fun h4 => absurd h4 k4⟩
        have hz : ∀ (x : RegS) (b : Bool), (takeS x b m).recs = [] := fun x b => by
          unfold takeS
          split
          · split <;> rfl
          · rfl
        exact hz _ _
end Go.Proofs.Ytdphfhenjndkkaa

set_option linter.unusedSimpArgs false
set_option linter.unusedVariables false
set_option maxRecDepth 100000
namespace Go.Proofs.Ytdphfhenjndkkaa
open Go Go.RowKit Go.Sq Go.Wd Go.Arch

/-- Mail of which no more is handed in than is looked at. -/
def Few (l : List MailV) : Prop := l.length ≤ 60 ∧ ∀ x ∈ l, x.m.ents.length ≤ 100
def Bey19 (F : Prop) (w : World) (e : Ending) (w' : World) : Prop := ∃ y, e = .returned (.bool y) ∧ (y = false → F) ∧ Below w.heap.size w w'

set_option maxHeartbeats 2000000 in
theorem beyond19_any (l : List MailV) (A : Option Addr) (c : Nat) (w : World) (hl : Mails w w.heap.size A l) (hll : l.length ≤ 9223372036854775807) :
    Calls Try.prog 10 #[.slice A l.length c] w fun e w' => Bey19 (Few l) w e w' := by
  have HH := Lib.hid hl
  have hz := Below.refl w.heap.size w
  clear hl
  by_cases h2 : 60 < l.length
  · have h2' : (60 : Int) < (l.length : Int) := by omega
    go_enter Try.func10, Try.ntmps10
    go_wp2_with fail
    go_ret
    exact ⟨true, rfl, by simp, hz⟩
  have h2' : ¬ (60 : Int) < (l.length : Int) := by omega
  go_enter Try.func10, Try.ntmps10
  go_wp2_with fail
  go_loopg [3] l.length (fun q i wr => ∃ j : Nat, q = l.length - j ∧ j ≤ l.length ∧ i = .int .i64 j ∧ Below w.heap.size w wr ∧ ∀ x ∈ l.take j, x.m.ents.length ≤ 100)
  case atStart => exact ⟨0, rfl, by omega, rfl, hz, by simp⟩
  case round =>
    clear hz
    obtain ⟨j, hq, hj, rfl, hwr, hno⟩ := hrel
    have AA : Aside (gk = l.length - j ∧ ∀ x ∈ l.take j, x.m.ents.length ≤ 100) := ⟨hq, hno⟩
    clear hq hno
    by_cases hlt : j < l.length
    · have j0 : (0 : Int) ≤ (j : Int) := by omega
      have j1 : (j : Int) < (l.length : Int) := by omega
      obtain ⟨b1, o1, x, rfl, hx, _, FA, hLx⟩ := HH.out.at_ hlt
      have hn : x.es.2.1 = x.m.ents.length := hLx.out.1
      have c9 : wr.cell? ⟨b1, o1 + j * 18 + 9, none⟩ = some (.slice x.es.1 x.es.2.1 x.es.2.2) := FA wr hwr 9 (by omega)
      rw [hn] at c9
      clear FA hn
      by_cases h3 : 100 < x.m.ents.length
      · have h3' : (100 : Int) < (x.m.ents.length : Int) := by omega
        go_wp2_with fail
        go_ret
        exact ⟨true, rfl, by simp, hwr⟩
      · have h3' : ¬ (100 : Int) < (x.m.ents.length : Int) := by omega
        go_wp2_with fail
        go_roundg (l.length - (j + 1))
        case measure => have hkk := AA.out.1; omega
        case rel =>
          refine ⟨j + 1, rfl, by omega, by go_num, hwr, fun z hz => ?_⟩
          rw [List.take_add_one, hx.out] at hz
          rcases List.mem_append.1 hz with hz | hz
          · exact AA.out.2 z hz
          · obtain rfl : z = x := by simpa using hz
            omega
    · obtain rfl : j = l.length := by omega
      have hfit : Hid (Few l) := Lib.hid ⟨by omega, by have := AA.out.2; rwa [List.take_length] at this⟩
      have j1 : ¬ (l.length : Int) < (l.length : Int) := by omega
      go_wp2_with fail
      go_ret
      exact ⟨false, rfl, fun _ => hfit.out, hwr⟩
end Go.Proofs.Ytdphfhenjndkkaa

set_option linter.unusedSimpArgs false
set_option linter.unusedVariables false
set_option maxRecDepth 100000
namespace Go.Proofs.Ytdphfhenjndkkaa
open Go Go.RowKit Go.Sq Go.Wd Go.Arch Go.Im

def FarS (B : Nat) (s : SlcE) : Prop := ∀ b o, s.1 = some ⟨b, o, none⟩ → B ≤ b
theorem FarS.none {B n c : Nat} : FarS B (none, n, c) := fun b o h => by cases h
theorem FarS.less {B B' : Nat} {s : SlcE} (h : FarS B s) (hB : B' ≤ B) : FarS B' s := fun b o e => Nat.le_trans hB (h b o e)
def LogF (B : Nat) (w : World) (s : SlcE) (l : List Ent) : Prop := LogAt w w.heap.size s l ∧ FarS B s
theorem LogF.keep {B : Nat} {w w' : World} {s : SlcE} {l : List Ent} (h : LogF B w s l) (hb : Below w.heap.size w w') : LogF B w' s l := ⟨h.1.keep hb, h.2⟩
theorem LogF.stored {B g : Nat} {w w' : World} {T : TypeId} {cs : List Value} {s : SlcE} {l : List Ent} (h : LogF B w s l) (hZ : Blk w g T cs) (hc : cs.length ≤ 5) (hg : w.grownBy w' (some g)) : LogF B w' s l := ⟨h.1.stored hZ hc hg, h.2⟩
theorem apply_far {B : Nat} {r q : RegS} {b : Bool} (sl : SlcE) (x : RecV) (w : World) (hB : B ≤ w.heap.size) (h : regR (applyR r x.s) = (q, b)) (hl : LogAt w w.heap.size sl r.log) (hx : LogAt w w.heap.size x.es x.ents) (hx2 : x.ents.length ≤ 1000) :
    Calls Try.prog 17 #[.agg (rgv r sl).toArray, .agg (rcv x).toArray] w fun e w' => ∃ s : SlcE, e = .returned (.tuple #[.agg (rgv q s).toArray, .bool b]) ∧ LogF B w' s q.log ∧ Below w.heap.size w w' := by
  refine (apply_any r sl x w hl hx hx2).mono ?_
  rintro e w1 ⟨s, he, hL, hb⟩
  rw [h] at he hL
  exact ⟨s, he, ⟨hL.1, fun b o e => Nat.le_trans hB (hL.2 b o e)⟩, hb⟩

set_option maxHeartbeats 8000000 in
theorem applied_far (B : Nat) (r0 : RegS) (sl : SlcE) (l : List RecV) (A : Option Addr) (c : Nat) (w : World) (hB0 : B ≤ w.heap.size) (hr : LogF B w sl r0.log) (hl : Rcs w w.heap.size A l) (hn : l.length ≤ 9223372036854775807) (hn2 : ∀ x ∈ l, x.ents.length ≤ 1000) :
    Calls Try.prog 19 #[.agg (rgv r0 sl).toArray, .slice A l.length c] w fun e w' => ∃ s : SlcE, e = .returned (.agg (rgv (appliedS r0 (l.map RecV.s)) s).toArray) ∧ LogF B w' s (appliedS r0 (l.map RecV.s)).log ∧ Below w.heap.size w w' := by
  have HE := Lib.hid (And.intro hl hn2)
  have hw0 : Below w.heap.size w ((w.alloc (.cells (rgv r0 sl).toArray 37)).alloc (.cells (rgv reg0 (none, 0, 0)).toArray 37)) := ((Below.refl _ _).alloc (Nat.le_refl _) _).alloc (by simp) _
  have B1 : Blk ((w.alloc (.cells (rgv r0 sl).toArray 37)).alloc (.cells (rgv reg0 (none, 0, 0)).toArray 37)) w.heap.size 37 (rgv r0 sl) := (Blk.new w _ _).alloc _
  have B0 : Blk ((w.alloc (.cells (rgv r0 sl).toArray 37)).alloc (.cells (rgv reg0 (none, 0, 0)).toArray 37)) (w.heap.size + 1) 37 (rgv reg0 (none, 0, 0)) := Blk.newAt _ _ _ (by simp)
  have HH := Lib.hid (And.intro hw0 (And.intro B0 (And.intro B1 (hr.keep hw0))))
  clear hw0 B0 B1 hl hn2 hr
  go_enter Try.func19, Try.ntmps19
  go_wp2_with fail
  go_loopg [5] l.length (fun q i wr => ∃ (j : Nat) (s : SlcE), q = l.length - j ∧ j ≤ l.length ∧ i = .int .i64 j ∧ Below w.heap.size w wr ∧ Blk wr (w.heap.size + 1) 37 (rgv reg0 (none, 0, 0)) ∧ Blk wr w.heap.size 37 (rgv (appliedS r0 ((l.map RecV.s).take j)) s) ∧ LogF B wr s (appliedS r0 ((l.map RecV.s).take j)).log)
  case atStart => exact ⟨0, sl, rfl, by omega, rfl, HH.out.1, HH.out.2.1, HH.out.2.2.1, HH.out.2.2.2⟩
  case round =>
    clear HH
    obtain ⟨j, s, hq, hj, rfl, hB, B0, B1, hS⟩ := hrel
    have AA : Aside (gk = l.length - j) := hq
    clear hq
    obtain ⟨wq, rfl⟩ : ∃ z, z = wr := ⟨_, rfl⟩
    by_cases hlt : j < l.length
    · obtain ⟨b1, o1, x, rfl, hx, FA, HX⟩ := HE.out.1.at8 hlt
      have hx2 := HE.out.2 x (List.mem_of_getElem? hx.out)
      obtain ⟨⟨q, b⟩, hqb⟩ : ∃ z, regR (applyR (appliedS r0 ((l.map RecV.s).take j)) x.s) = z := ⟨_, rfl⟩
      have HN := Lib.hid (appliedS_next (r := r0) (S := l.map RecV.s) (j := j) (x := x.s) (by rw [List.getElem?_map, hx.out]; rfl))
      generalize appliedS r0 ((l.map RecV.s).take j) = r at B1 hS hqb HN ⊢
      have HQ := Lib.hid hqb
      clear hqb
      have HS := Lib.hid hS
      clear hS
      have hz := hB.size
      go_wp2_with fail
      refine wp_region_t (.quiet 0 (.quiet 1 (.quiet 2 (.quiet 3 (.quiet 4 (.two 5 9 (.quiet 6 (.quiet 7 (.quiet 8 (.one 9 (.one 10 (.quiet 11 .done)))))) (.one 5 (.quiet 6 (.quiet 7 (.quiet 8 (.one 10 (.quiet 11 .done)))))))))))) (fun w' => Below wq.heap.size wq w') (by kernel_rfl) (by kernel_rfl) (by kernel_rfl) (by kernel_rfl) ((Below.refl _ _).drew) rfl ?_
      intro KP RP TP hKP hTP hTP'
      simp only [Sch.fill, nth]
      apply merge2 (Inv := fun g s w' => Below wq.heap.size wq w' ∧ wq.heap.size ≤ g ∧ Blk w' g 37 (rgv q s) ∧ LogF B w' s (q).log) (K := KP)
      · intro HK
        have hQ : Below wq.heap.size wq wq.drew := (Below.refl _ _).drew
        generalize wq.drew = wc at hQ ⊢
        go_wp2_with (first
          | (apply SeqT.skip; rfl; simp only [Act.put, List.setIfInBounds_toArray, List.set_cons_zero, List.set_cons_succ])
          | (apply SeqT.pure; rfl; (intro w9 hw9; have hw9 := hTP _ hw9; exact exec_load_blk 37 _ rfl _ rfl _ _ (B1.keep hw9) _ Try.underlying37 rfl rg_info); simp only [Act.put, List.setIfInBounds_toArray, List.set_cons_zero, List.set_cons_succ])
          | (apply SeqT.pure; rfl; (intro w9 hw9; have hw9 := hTP _ hw9; ((obtain ⟨q0, q1, q2, q3, q4, q5, q6, q7⟩ := FA _ (below_trans hB hw9 hz))); go_simp; with_reducible rfl); simp only [Act.put, List.setIfInBounds_toArray, List.set_cons_zero, List.set_cons_succ]))
        all_goals first | apply SeqT.two | apply SeqT.one
        all_goals first
          | (refine EffT.is (some 20) rfl ?_
             apply EffT.go
             · rfl
             intro KE hKE
             go_wp2_with fail
             refine (apply_far s x wc (Nat.le_trans hB0 (Nat.le_trans hz hQ.size)) HQ.out (HS.out.keep hQ).1 (HX.out.keep (below_trans hB hQ hz)) (by omega)).mono ?_
             rintro e wd ⟨sr, rfl, hR0, hb⟩
             have hQ' := below_trans hQ hb hQ.size
             refine hKE _ _ (hTP' _ hQ') ?_
             clear hKE KE hQ
             try replace hZ := hZ.keep hb
             clear hb
             try clear wc
             obtain ⟨wc, rfl⟩ : ∃ z, z = wd := ⟨_, rfl⟩
             have hR := hR0
             clear hR0
             have hQ := hQ'
             clear hQ'
             go_wp2_with (first
               | (apply SeqT.skip; rfl; simp only [Act.put, List.setIfInBounds_toArray, List.set_cons_zero, List.set_cons_succ])
               | (apply SeqT.pure; rfl; (intro w9 hw9; have hw9 := hTP _ hw9; exact exec_load_blk 37 _ rfl _ rfl _ _ (B1.keep hw9) _ Try.underlying37 rfl rg_info); simp only [Act.put, List.setIfInBounds_toArray, List.set_cons_zero, List.set_cons_succ])
               | (apply SeqT.pure; rfl; (intro w9 hw9; have hw9 := hTP _ hw9; ((obtain ⟨q0, q1, q2, q3, q4, q5, q6, q7⟩ := FA _ (below_trans hB hw9 hz))); go_simp; with_reducible rfl); simp only [Act.put, List.setIfInBounds_toArray, List.set_cons_zero, List.set_cons_succ])))
          | (refine EffT.is (some 6) rfl ?_
             apply EffT.go
             · rfl
             intro KE hKE
             go_wp2_with fail
             refine eff_abs hKE (fun W' => Below wc.heap.size wc W' ∧ Blk W' wc.heap.size 37 (rgv reg0 (none, 0, 0))) ⟨(Below.refl _ _).alloc (Nat.le_refl _) _, Blk.new wc 37 (rgv reg0 (none, 0, 0))⟩ (fun W' h => hTP' _ (below_trans hQ h.1 hQ.size)) ?_
             rintro wd ⟨hb, hZ0⟩
             have hQ' := below_trans hQ hb hQ.size
             have hgz := hQ.size
             generalize wc.heap.size = gz at hZ0 hgz ⊢
             clear hKE KE hQ
             try replace hR := hR.keep hb
             clear hb
             try clear wc
             obtain ⟨wc, rfl⟩ : ∃ z, z = wd := ⟨_, rfl⟩
             have hZ := hZ0
             clear hZ0
             have hQ := hQ'
             clear hQ'
             go_wp2_with (first
               | (apply SeqT.skip; rfl; simp only [Act.put, List.setIfInBounds_toArray, List.set_cons_zero, List.set_cons_succ])
               | (apply SeqT.pure; rfl; (intro w9 hw9; have hw9 := hTP _ hw9; exact exec_load_blk 37 _ rfl _ rfl _ _ (B1.keep hw9) _ Try.underlying37 rfl rg_info); simp only [Act.put, List.setIfInBounds_toArray, List.set_cons_zero, List.set_cons_succ])
               | (apply SeqT.pure; rfl; (intro w9 hw9; have hw9 := hTP _ hw9; ((obtain ⟨q0, q1, q2, q3, q4, q5, q6, q7⟩ := FA _ (below_trans hB hw9 hz))); go_simp; with_reducible rfl); simp only [Act.put, List.setIfInBounds_toArray, List.set_cons_zero, List.set_cons_succ])))
        all_goals first | apply SeqT.two | apply SeqT.one
        all_goals first
          | (refine EffT.is (some 20) rfl ?_
             apply EffT.go
             · rfl
             intro KE hKE
             go_wp2_with fail
             refine (apply_far s x wc (Nat.le_trans hB0 (Nat.le_trans hz hQ.size)) HQ.out (HS.out.keep hQ).1 (HX.out.keep (below_trans hB hQ hz)) (by omega)).mono ?_
             rintro e wd ⟨sr, rfl, hR0, hb⟩
             have hQ' := below_trans hQ hb hQ.size
             refine hKE _ _ (hTP' _ hQ') ?_
             clear hKE KE hQ
             try replace hZ := hZ.keep hb
             clear hb
             try clear wc
             obtain ⟨wc, rfl⟩ : ∃ z, z = wd := ⟨_, rfl⟩
             have hR := hR0
             clear hR0
             have hQ := hQ'
             clear hQ'
             go_wp2_with (first
               | (apply SeqT.skip; rfl; simp only [Act.put, List.setIfInBounds_toArray, List.set_cons_zero, List.set_cons_succ])
               | (apply SeqT.pure; rfl; (intro w9 hw9; have hw9 := hTP _ hw9; exact exec_load_blk 37 _ rfl _ rfl _ _ (B1.keep hw9) _ Try.underlying37 rfl rg_info); simp only [Act.put, List.setIfInBounds_toArray, List.set_cons_zero, List.set_cons_succ])
               | (apply SeqT.pure; rfl; (intro w9 hw9; have hw9 := hTP _ hw9; ((obtain ⟨q0, q1, q2, q3, q4, q5, q6, q7⟩ := FA _ (below_trans hB hw9 hz))); go_simp; with_reducible rfl); simp only [Act.put, List.setIfInBounds_toArray, List.set_cons_zero, List.set_cons_succ])))
          | (refine EffT.is (some 6) rfl ?_
             apply EffT.go
             · rfl
             intro KE hKE
             go_wp2_with fail
             refine eff_abs hKE (fun W' => Below wc.heap.size wc W' ∧ Blk W' wc.heap.size 37 (rgv reg0 (none, 0, 0))) ⟨(Below.refl _ _).alloc (Nat.le_refl _) _, Blk.new wc 37 (rgv reg0 (none, 0, 0))⟩ (fun W' h => hTP' _ (below_trans hQ h.1 hQ.size)) ?_
             rintro wd ⟨hb, hZ0⟩
             have hQ' := below_trans hQ hb hQ.size
             have hgz := hQ.size
             generalize wc.heap.size = gz at hZ0 hgz ⊢
             clear hKE KE hQ
             try replace hR := hR.keep hb
             clear hb
             try clear wc
             obtain ⟨wc, rfl⟩ : ∃ z, z = wd := ⟨_, rfl⟩
             have hZ := hZ0
             clear hZ0
             have hQ := hQ'
             clear hQ'
             go_wp2_with (first
               | (apply SeqT.skip; rfl; simp only [Act.put, List.setIfInBounds_toArray, List.set_cons_zero, List.set_cons_succ])
               | (apply SeqT.pure; rfl; (intro w9 hw9; have hw9 := hTP _ hw9; exact exec_load_blk 37 _ rfl _ rfl _ _ (B1.keep hw9) _ Try.underlying37 rfl rg_info); simp only [Act.put, List.setIfInBounds_toArray, List.set_cons_zero, List.set_cons_succ])
               | (apply SeqT.pure; rfl; (intro w9 hw9; have hw9 := hTP _ hw9; ((obtain ⟨q0, q1, q2, q3, q4, q5, q6, q7⟩ := FA _ (below_trans hB hw9 hz))); go_simp; with_reducible rfl); simp only [Act.put, List.setIfInBounds_toArray, List.set_cons_zero, List.set_cons_succ])))
        all_goals first | apply SeqT.two | apply SeqT.one
        all_goals
          refine EffT.is none rfl ?_
          apply EffT.go
          · rfl
          intro KE hKE
          refine wp_store_own 37 _ _ rfl _ (rgv q sr) rfl rfl _ _ hZ rg_info rfl (rgv_one _ _) ?_
          intro wd B5 g5
          have hQ' := hQ.trans (below_grown g5 hgz hQ.size)
          have hR5 := hR.stored hZ (by simp [rgv]) g5
          refine hKE _ _ (hTP' _ hQ') ?_
          clear hKE KE
          go_wp2_with (first
            | (apply SeqT.skip; rfl; simp only [Act.put, List.setIfInBounds_toArray, List.set_cons_zero, List.set_cons_succ])
            | (apply SeqT.pure; rfl; (intro w9 hw9; have hw9 := hTP _ hw9; exact exec_load_blk 37 _ rfl _ rfl _ _ (B1.keep hw9) _ Try.underlying37 rfl rg_info); simp only [Act.put, List.setIfInBounds_toArray, List.set_cons_zero, List.set_cons_succ])
            | (apply SeqT.pure; rfl; (intro w9 hw9; have hw9 := hTP _ hw9; ((obtain ⟨q0, q1, q2, q3, q4, q5, q6, q7⟩ := FA _ (below_trans hB hw9 hz))); go_simp; with_reducible rfl); simp only [Act.put, List.setIfInBounds_toArray, List.set_cons_zero, List.set_cons_succ]))
          apply SeqT.done
          exact HK gz sr wd ⟨hQ', hgz, B5, hR5⟩
      intro g s2 w3 ⟨hb3, hge, B3, R3⟩
      refine hKP _ _ (hTP' _ hb3) ?_
      clear hKP hTP hTP'
      have hB3 := below_trans hB hb3 hz
      have C0 := B0.keep hb3
      have C1 := B1.keep hb3
      have HS3 := Lib.hid (HS.out.keep hb3)
      have HE2 := Lib.hid (regR_get HQ.out)
      have R3' := Lib.hid R3
      have l1 := C1.lt
      have hz3 := hB3.size
      clear HQ R3 B0 B1 HS hB hb3
      try clear wq
      cases b with
      | true =>
        go_wp2_with ((with_reducible refine at_list ?_); first | refine wpList_load_blk rfl 37 _ rfl _ rfl _ _ _ (B3) Try.underlying37 rfl rg_info ?_ | (refine wpList_store_own rfl 37 _ _ rfl _ (rgv q s2) rfl rfl _ _ (C1) rg_info rfl (rgv_one _ _) ?_; intro w4 D1 g4))
        have hB4 := hB3.trans (below_grown g4 (by omega) hz3)
        go_roundg (l.length - (j + 1))
        case measure => have hkk := AA.out; omega
        case rel =>
          refine ⟨j + 1, s2, rfl, by omega, by go_num, hB4, C0.grown g4 (fun e => by have := Option.some.inj e; omega), ?_, ?_⟩
          · rw [HN.out, HE2.out]; exact D1
          · rw [HN.out, HE2.out]; exact R3'.out.stored C1 (by simp [rgv]) g4
      | false =>
        go_wp2_with fail
        go_roundg (l.length - (j + 1))
        case measure => have hkk := AA.out; omega
        case rel =>
          refine ⟨j + 1, s, rfl, by omega, by go_num, hB3, C0, ?_, ?_⟩
          · rw [HN.out, HE2.out]; exact C1
          · rw [HN.out, HE2.out]; exact HS3.out
    · obtain rfl : j = l.length := by omega
      have htk : (l.map RecV.s).take l.length = l.map RecV.s := List.take_of_length_le (by rw [List.length_map]; omega)
      rw [htk] at B1 hS
      have l1 := B1.lt
      have hz := hB.size
      clear htk
      go_wp2_with ((with_reducible refine at_list ?_); first | refine wpList_load_blk rfl 37 _ rfl _ rfl _ _ _ (B1) Try.underlying37 rfl rg_info ?_ | (refine wpList_store_own rfl 37 _ _ rfl _ (rgv (appliedS r0 (l.map RecV.s)) s) rfl rfl _ _ (B0) rg_info rfl (rgv_one _ _) ?_; intro w4 D0 g4))
      have hB4 := hB.trans (below_grown g4 (by omega) hz)
      apply ret_of
      · exact results_blk rfl _ _ _ _ _ _ rfl D0 Try.underlying37 rfl rg_info
      · exact ⟨rfl, s, rfl, hS.stored B0 (by simp [rgv]) g4, hB4⟩
end Go.Proofs.Ytdphfhenjndkkaa

set_option linter.unusedSimpArgs false
set_option linter.unusedVariables false
set_option maxRecDepth 100000
namespace Go.Sq
open Go Go.ChangeShapes Go.WideShapes Go.RowKit Go.Deep
section
variable {H : Type} {enc : TypeId × Value → H} {P : Program} {w : World} {base : Nat} {spare : Nat → Bool} {held : Bool}

theorem single_at {cs : List Value} {j : Nat} (h : j < cs.length) : (cs.drop j).take 1 = [cs[j]] := by
  rw [List.drop_eq_getElem_cons h]; rfl

/-- The cells of a struct, field by field. -/
theorem cells_fields {t : TypeId} {fs : Array Field} {fuel : Nat} {l : List Value} {x : DataW H × List MemPlace} (hs : P.underlying t = some (.struct fs)) (hone : oneCellFields P fs = true)
    (hC : P.cellsOf t = fs.size) (h : DataW.trod enc P w base spare held fuel t l = some x) :
    l.length = fs.size ∧ ∃ n : Nat, ∀ (j : Nat) (f : Field), fs[j]? = some f → ∃ (c : Value) (y : DataW H × List MemPlace), l[j]? = some c ∧ DataW.trod enc P w base spare held n f.type [c] = some y := by
  obtain ⟨xs, n, _, hx, hl, hlen, hg⟩ := DataW.trod_struct hs h
  rw [hC] at hl
  refine ⟨hl, n, fun j f hj => ?_⟩
  obtain ⟨ho, hk⟩ := hone_of hone j f hj
  have hjl : j < fs.size := (Array.getElem?_eq_some_iff.1 hj).1
  have h1 := hg j f hj
  rw [ho, hk] at h1
  rw [single_at (by omega)] at h1
  have hxj : j < xs.length := by omega
  exact ⟨_, xs[j], List.getElem?_eq_getElem (by omega), by rw [h1]; exact List.getElem?_eq_getElem hxj⟩

/-- An array by value: its cells, element by element. -/
theorem open_array {r : Reach} {b0 : Nat} {t e : TypeId} {n : Nat} {v : Value} {d : DataW H} {p : List MemPlace} (ht : P.underlying t = some (.array n e)) (hv : Value.okWide P w r b0 t v)
    (h : DataW.Trod enc P w base spare held t v d p) :
    ∃ (l : List Value) (m : Nat), v = .agg l.toArray ∧ l.length = P.cellsOf t ∧ ∀ i, i < n → ∃ y, DataW.trod enc P w base spare held m e ((l.drop (i * P.cellsOf e)).take (P.cellsOf e)) = some y := by
  simp only [Value.okWide, ht] at hv
  obtain ⟨⟨l⟩, rfl, hsz, _⟩ := hv
  obtain ⟨fuel, hf⟩ := h
  obtain ⟨xs, m, _, _, hl, hlen, hg⟩ := Go.DataW.trod_array ht hf
  refine ⟨l, m, rfl, hsz, fun i hi => ?_⟩
  have h1 := hg i hi
  have hxi : i < xs.length := by omega
  simp only [Value.cells] at h1
  exact ⟨xs[i], by rw [h1]; exact List.getElem?_eq_getElem hxi⟩

theorem add_none (b off n : Nat) : (⟨b, off, none⟩ : Addr).add n = ⟨b, off + n, none⟩ := by
  unfold Addr.add
  by_cases h : n = 0 <;> simp [h]
theorem add_block (a : Addr) (n : Nat) : (a.add n).block = a.block := by
  unfold Addr.add
  by_cases h : n = 0 <;> simp [h]

/-- A slice of structs: what each cell of its elements holds. -/
theorem open_rows {r : Reach} {b0 : Nat} {t e : TypeId} {fs : Array Field} {v : Value} {d : DataW H} {p : List MemPlace} (ht : P.underlying t = some (.slice e)) (hs : P.underlying e = some (.struct fs))
    (hone : oneCellFields P fs = true) (hC : P.cellsOf e = fs.size) (hpos : 0 < fs.size) (hv : Value.okWide P w r b0 t v) (h : DataW.Trod enc P w base spare held t v d p) :
    ∃ (a : Option Addr) (len cap : Nat), v = .slice a len cap ∧ len ≤ cap ∧ cap ≤ maxLen ∧ ∀ i, i < len → ∃ b off, a = some ⟨b, off, none⟩ ∧ b < w.heap.size ∧
      ∃ n : Nat, ∀ (j : Nat) (f : Field), fs[j]? = some f → ∃ (c : Value) (y : DataW H × List MemPlace), w.cell? ⟨b, off + i * fs.size + j, none⟩ = some c ∧ DataW.trod enc P w base spare held n f.type [c] = some y := by
  obtain ⟨a0, len, cap, rfl⟩ := okWide_slice ht hv
  obtain ⟨fuel, hf⟩ := h
  rcases open_slice ht hf with ⟨hcs, _⟩ | ⟨a, l, c, m, n, D, Pl, hcs, _, hl, hm, hmm, _, hi⟩
  · simp [Value.cells] at hcs
    obtain ⟨rfl, rfl, rfl⟩ := hcs
    exact ⟨none, 0, 0, rfl, Nat.le_refl _, by simp [maxLen], fun i hi => by omega⟩
  · simp [Value.cells] at hcs
    obtain ⟨rfl, rfl, rfl⟩ := hcs
    refine ⟨some a, len, cap, rfl, hl, hm, fun i hil => ?_⟩
    have hsp : a.spot = none := by
      obtain ⟨cs', hc, _⟩ := hi 0 (by rw [hmm]; split <;> omega)
      rw [hC] at hc
      obtain ⟨_, hcl, hat⟩ := World.cells?_some hc
      have h0 := hat 0 hpos
      rw [List.getElem?_eq_getElem (show 0 < cs'.length by omega)] at h0
      simpa [Addr.add] using World.cell?_spot h0
    have him : i < m := by rw [hmm]; split <;> omega
    obtain ⟨cs', hc, ht'⟩ := hi i him
    rw [hC] at hc
    obtain ⟨_, n', hg⟩ := cells_fields hs hone hC ht'
    obtain ⟨_, hcl, hat⟩ := World.cells?_some hc
    have h0 := hat 0 hpos
    rw [List.getElem?_eq_getElem (show 0 < cs'.length by omega)] at h0
    have hbl := World.block_lt_of_cell? _ _ h0
    rw [add_block, add_block] at hbl
    obtain ⟨b, off, spot⟩ := a
    obtain rfl : spot = none := hsp
    refine ⟨b, off, rfl, hbl, n', fun j f hj => ?_⟩
    have hjl : j < fs.size := (Array.getElem?_eq_some_iff.1 hj).1
    obtain ⟨c, y, h1, h2⟩ := hg j f hj
    refine ⟨c, y, ?_, h2⟩
    have h3 := hat j hjl
    rw [h1, add_none, add_none] at h3
    exact h3

/-- The value is an aggregate of as many values as there are fields; each reads by its field's type. -/
theorem open_fields {r : Reach} {b0 : Nat} {t : TypeId} {fs : Array Field} {v : Value} {d : DataW H} {p : List MemPlace} (hs : P.underlying t = some (.struct fs)) (hone : oneCellFields P fs = true)
    (hC : P.cellsOf t = fs.size) (hv : Value.okWide P w r b0 t v) (h : DataW.Trod enc P w base spare held t v d p) :
    ∃ (cs : List Value) (n : Nat), v = .agg cs.toArray ∧ cs.length = fs.size ∧
      ∀ (j : Nat) (f : Field), fs[j]? = some f → ∃ (c : Value) (y : DataW H × List MemPlace), cs[j]? = some c ∧ DataW.trod enc P w base spare held n f.type [c] = some y := by
  obtain ⟨⟨l⟩, rfl, hsz⟩ := okWide_struct hs hv
  obtain ⟨fuel, hf⟩ := h
  obtain ⟨xs, n, _, hx, _, hlen, hg⟩ := DataW.trod_struct hs hf
  have hl : l.length = fs.size := by rw [← hC]; exact hsz
  refine ⟨l, n, rfl, hl, fun j f hj => ?_⟩
  obtain ⟨ho, hk⟩ := hone_of hone j f hj
  have hjl : j < fs.size := (Array.getElem?_eq_some_iff.1 hj).1
  have h1 := hg j f hj
  rw [ho, hk] at h1
  simp only [Value.cells] at h1
  rw [single_at (by omega)] at h1
  have hxj : j < xs.length := by omega
  exact ⟨_, xs[j], List.getElem?_eq_getElem (by omega), by rw [h1]; exact List.getElem?_eq_getElem hxj⟩
/-- An array of numbers by value. -/
theorem open_nums {r : Reach} {b0 : Nat} {t e : TypeId} {n : Nat} {k : IntKind} {v : Value} {d : DataW H} {p : List MemPlace} (ht : P.underlying t = some (.array n e)) (he : P.underlying e = some (.int k))
    (hC : P.cellsOf e = 1) (hCt : P.cellsOf t = n) (hv : Value.okWide P w r b0 t v) (h : DataW.Trod enc P w base spare held t v d p) :
    ∃ zs : List Int, zs.length = n ∧ v = .agg (zs.map (Value.int k)).toArray ∧ ∀ z ∈ zs, (Lit.int k z).wf = true := by
  obtain ⟨l, m, rfl, hl, hf⟩ := open_array ht hv h
  rw [hCt] at hl
  rw [hC] at hf
  have key : ∀ (l : List Value), (∀ i, (hi : i < l.length) → ∃ z, l[i] = .int k z ∧ (Lit.int k z).wf = true) → ∃ zs : List Int, l = zs.map (Value.int k) ∧ ∀ z ∈ zs, (Lit.int k z).wf = true := by
    intro l
    induction l with
    | nil => intro _; exact ⟨[], rfl, by simp⟩
    | cons x l ih =>
      intro hh
      obtain ⟨z, hz, hw⟩ := hh 0 (by simp)
      obtain ⟨zs, hzs, hws⟩ := ih (fun i hi => by have := hh (i + 1) (by simp; omega); simpa using this)
      refine ⟨z :: zs, by simp at hz; simp [hz, hzs], ?_⟩
      intro y hy
      rcases List.mem_cons.1 hy with rfl | hy
      · exact hw
      · exact hws y hy
  obtain ⟨zs, hzs, hws⟩ := key l (fun i hi => by
    obtain ⟨y, hy⟩ := hf i (by omega)
    rw [Nat.mul_one, single_at hi] at hy
    obtain ⟨z, hcz, _, hw⟩ := DataW.trod_int he hy
    exact ⟨z, by simpa using hcz, hw⟩)
  exact ⟨zs, by rw [hzs] at hl; simpa using hl, by rw [hzs], hws⟩
end
theorem wf_u8 {a : Int} (h : (Lit.int .u8 a).wf = true) : 0 ≤ a ∧ a ≤ 255 := by
  simp only [Lit.wf, Bool.and_eq_true, decide_eq_true_eq] at h
  exact h
theorem wf_u16 {a : Int} (h : (Lit.int .u16 a).wf = true) : 0 ≤ a ∧ a ≤ 65535 := by
  simp only [Lit.wf, Bool.and_eq_true, decide_eq_true_eq] at h
  exact h
theorem wf_i64 {a : Int} (h : (Lit.int .i64 a).wf = true) : -9223372036854775808 ≤ a ∧ a ≤ 9223372036854775807 := by
  simp only [Lit.wf, Bool.and_eq_true, decide_eq_true_eq] at h
  exact h
theorem i64_wf {a : Int} (h : -9223372036854775808 ≤ a) (h2 : a ≤ 9223372036854775807) : (Lit.int .i64 a).wf = true := by
  simp only [Lit.wf, Bool.and_eq_true, decide_eq_true_eq]
  exact ⟨h, h2⟩
theorem len1 {α : Type} {l : List α} (h : l.length = 1) : ∃ a0, l = [a0] := by
  match l, h with
  | [a0], _ => exact ⟨a0, rfl⟩
theorem len2 {α : Type} {l : List α} (h : l.length = 2) : ∃ a0 a1, l = [a0, a1] := by
  match l, h with
  | [a0, a1], _ => exact ⟨a0, a1, rfl⟩
theorem len3 {α : Type} {l : List α} (h : l.length = 3) : ∃ a0 a1 a2, l = [a0, a1, a2] := by
  match l, h with
  | [a0, a1, a2], _ => exact ⟨a0, a1, a2, rfl⟩
theorem len4 {α : Type} {l : List α} (h : l.length = 4) : ∃ a0 a1 a2 a3, l = [a0, a1, a2, a3] := by
  match l, h with
  | [a0, a1, a2, a3], _ => exact ⟨a0, a1, a2, a3, rfl⟩
theorem len5 {α : Type} {l : List α} (h : l.length = 5) : ∃ a0 a1 a2 a3 a4, l = [a0, a1, a2, a3, a4] := by
  match l, h with
  | [a0, a1, a2, a3, a4], _ => exact ⟨a0, a1, a2, a3, a4, rfl⟩
theorem len6 {α : Type} {l : List α} (h : l.length = 6) : ∃ a0 a1 a2 a3 a4 a5, l = [a0, a1, a2, a3, a4, a5] := by
  match l, h with
  | [a0, a1, a2, a3, a4, a5], _ => exact ⟨a0, a1, a2, a3, a4, a5, rfl⟩
theorem len7 {α : Type} {l : List α} (h : l.length = 7) : ∃ a0 a1 a2 a3 a4 a5 a6, l = [a0, a1, a2, a3, a4, a5, a6] := by
  match l, h with
  | [a0, a1, a2, a3, a4, a5, a6], _ => exact ⟨a0, a1, a2, a3, a4, a5, a6, rfl⟩
theorem len8 {α : Type} {l : List α} (h : l.length = 8) : ∃ a0 a1 a2 a3 a4 a5 a6 a7, l = [a0, a1, a2, a3, a4, a5, a6, a7] := by
  match l, h with
  | [a0, a1, a2, a3, a4, a5, a6, a7], _ => exact ⟨a0, a1, a2, a3, a4, a5, a6, a7, rfl⟩
end Go.Sq

set_option linter.unusedSimpArgs false
set_option linter.unusedVariables false
set_option maxRecDepth 100000
namespace Go.Sq
open Go Go.ChangeShapes Go.WideShapes Go.RowKit Go.Deep
theorem list_of {α : Type} {p : Nat → α → Prop} : ∀ (n : Nat), (∀ i, i < n → ∃ x, p i x) → ∃ l : List α, l.length = n ∧ ∀ i x, l[i]? = some x → p i x
  | 0, _ => ⟨[], rfl, fun i x h => by simp at h⟩
  | n + 1, h => by
    obtain ⟨l, hl, hp⟩ := list_of n (fun i hi => h i (by omega))
    obtain ⟨x, hx⟩ := h n (by omega)
    refine ⟨l ++ [x], by simp [hl], fun i y hy => ?_⟩
    rcases Nat.lt_or_ge i n with hi | hi
    · rw [List.getElem?_append_left (by omega)] at hy
      exact hp i y hy
    · have hlt := (List.getElem?_eq_some_iff.1 hy).1
      have : i = n := by simp at hlt; omega
      subst this
      rw [List.getElem?_append_right (by omega), hl] at hy
      simp at hy
      subst hy
      exact hx
section
variable {H : Type} {enc : TypeId × Value → H} {P : Program} {w : World} {base : Nat} {spare : Nat → Bool} {held : Bool}

theorem open_rows_any {r : Reach} {b0 : Nat} {t e : TypeId} {C : Nat} {v : Value} {d : DataW H} {p : List MemPlace} (ht : P.underlying t = some (.slice e))
    (hC : P.cellsOf e = C) (hpos : 0 < C) (hv : Value.okWide P w r b0 t v) (h : DataW.Trod enc P w base spare held t v d p) :
    ∃ (a : Option Addr) (len cap : Nat), v = .slice a len cap ∧ len ≤ cap ∧ cap ≤ maxLen ∧ (0 < len → ∃ b off, a = some ⟨b, off, none⟩ ∧ b < w.heap.size ∧ ∀ i, i < len →
      ∃ (cs : List Value) (n : Nat) (y : DataW H × List MemPlace), cs.length = C ∧ (∀ k, k < C → w.cell? ⟨b, off + i * C + k, none⟩ = cs[k]?) ∧ DataW.trod enc P w base spare held n e cs = some y) := by
  obtain ⟨a0, len, cap, rfl⟩ := okWide_slice ht hv
  obtain ⟨fuel, hf⟩ := h
  rcases open_slice ht hf with ⟨hcs, _⟩ | ⟨a, l, c, m, n, D, Pl, hcs, _, hl, hm, hmm, _, hi⟩
  · simp [Value.cells] at hcs
    obtain ⟨rfl, rfl, rfl⟩ := hcs
    exact ⟨none, 0, 0, rfl, Nat.le_refl _, by simp [maxLen], fun h => absurd h (by omega)⟩
  · simp [Value.cells] at hcs
    obtain ⟨rfl, rfl, rfl⟩ := hcs
    refine ⟨some a, len, cap, rfl, hl, hm, fun hlen => ?_⟩
    obtain ⟨b, off, rfl, hbl⟩ : ∃ b off, a = ⟨b, off, none⟩ ∧ b < w.heap.size := by
      obtain ⟨cs', hc, _⟩ := hi 0 (by rw [hmm]; split <;> omega)
      rw [hC] at hc
      obtain ⟨_, hcl, hat⟩ := World.cells?_some hc
      have h0 := hat 0 hpos
      rw [List.getElem?_eq_getElem (show 0 < cs'.length by omega)] at h0
      have hsp : a.spot = none := by simpa [Addr.add] using World.cell?_spot h0
      have hbl := World.block_lt_of_cell? _ _ h0
      rw [add_block, add_block] at hbl
      obtain ⟨b, off, spot⟩ := a
      obtain rfl : spot = none := hsp
      exact ⟨b, off, rfl, hbl⟩
    refine ⟨b, off, rfl, hbl, fun i hil => ?_⟩
    obtain ⟨cs', hc, ht'⟩ := hi i (by rw [hmm]; split <;> omega)
    rw [hC] at hc
    obtain ⟨_, hcl, hat⟩ := World.cells?_some hc
    refine ⟨cs', n, _, hcl, fun k hk => ?_, ht'⟩
    have h3 := hat k hk
    rw [add_none, add_none] at h3
    exact h3

/-- A struct of five numbers. -/
theorem five_of {n : Nat} {t : TypeId} {fs : Array Field} {l : List Value} {x : DataW H × List MemPlace} {ti : TypeId} (hs : P.underlying t = some (.struct fs)) (hone : oneCellFields P fs = true)
    (hC : P.cellsOf t = fs.size) (h5 : fs.size = 5) (hty : ∀ (j : Nat) (f : Field), fs[j]? = some f → P.underlying f.type = some (.int .i64)) (h : DataW.trod enc P w base spare held n t l = some x) :
    ∃ a b c d e : Int, l = [.int .i64 a, .int .i64 b, .int .i64 c, .int .i64 d, .int .i64 e] ∧ (Lit.int .i64 a).wf = true ∧ (Lit.int .i64 b).wf = true ∧ (Lit.int .i64 c).wf = true ∧ (Lit.int .i64 d).wf = true ∧ (Lit.int .i64 e).wf = true := by
  obtain ⟨hl, m, hf⟩ := cells_fields hs hone hC h
  rw [h5] at hl
  obtain ⟨c0, c1, c2, c3, c4, rfl⟩ := len5 hl
  have key : ∀ j c, j < 5 → [c0, c1, c2, c3, c4][j]? = some c → ∃ z, c = .int .i64 z ∧ (Lit.int .i64 z).wf = true := by
    intro j c hj hc
    have hj' : j < fs.size := by omega
    obtain ⟨c', y, h1, h2⟩ := hf j _ (Array.getElem?_eq_getElem hj')
    rw [hc] at h1
    cases h1
    obtain ⟨z, hz, _, hw⟩ := DataW.trod_int (hty j _ (Array.getElem?_eq_getElem hj')) h2
    exact ⟨z, by simpa using hz, hw⟩
  obtain ⟨a, rfl, wa⟩ := key 0 c0 (by omega) rfl
  obtain ⟨b, rfl, wb⟩ := key 1 c1 (by omega) rfl
  obtain ⟨c, rfl, wc⟩ := key 2 c2 (by omega) rfl
  obtain ⟨d, rfl, wd⟩ := key 3 c3 (by omega) rfl
  obtain ⟨e, rfl, we⟩ := key 4 c4 (by omega) rfl
  exact ⟨a, b, c, d, e, rfl, wa, wb, wc, wd, we⟩
end
end Go.Sq

namespace Go.Proofs.Ytdphfhenjndkkaa
open Go Go.ChangeShapes Go.WideShapes Go.RowKit Go.Deep Go.Sq
section
variable {H : Type} {enc : TypeId × Value → H} {w : World} {base : Nat} {spare : Nat → Bool} {held : Bool}

def wfEnt (e : Ent) : Prop := (Lit.int .i64 e.1).wf = true ∧ (Lit.int .i64 e.2.1).wf = true ∧ (Lit.int .i64 e.2.2.1).wf = true ∧ (Lit.int .i64 e.2.2.2.1).wf = true ∧ (Lit.int .i64 e.2.2.2.2.1).wf = true ∧ (Lit.int .i64 e.2.2.2.2.2).wf = true

theorem open_ent {n : Nat} {cs : List Value} {y : DataW H × List MemPlace} (h : DataW.trod enc Try.prog w base spare held n 64 cs = some y) : ∃ e : Ent, cs = vals e ∧ wfEnt e := by
  have hC : Try.prog.cellsOf 64 = 6 := by kernel_rfl
  have hCo : Try.prog.cellsOf 39 = 5 := by kernel_rfl
  have hCi : Try.prog.cellsOf 3 = 1 := by kernel_rfl
  obtain ⟨xs, m, _, _, hl, hlen, hg⟩ := DataW.trod_struct Try.underlying64 h
  rw [hC] at hl
  obtain ⟨c0, c1, c2, c3, c4, c5, rfl⟩ := len6 hl
  have h0 := hg 0 _ rfl
  have h1 := hg 1 _ rfl
  simp only [List.getElem_toArray, List.getElem_cons_zero, List.getElem_cons_succ] at h0 h1
  rw [hCi] at h0
  rw [hCo] at h1
  simp only [List.drop_zero, List.take_succ_cons, List.take_zero, List.drop_succ_cons] at h0 h1
  have hx : xs.length = 2 := hlen
  obtain ⟨x0, x1, rfl⟩ := len2 hx
  obtain ⟨z, hz, _, hw⟩ := DataW.trod_int Try.underlying3 h0
  obtain ⟨a, b, c, d, e, h5, wa, wb, wc, wd, we⟩ := five_of (ti := 3) Try.underlying39 (by kernel_rfl) (by kernel_rfl) rfl (by
    intro j f hf
    have hj : j < 5 := (Array.getElem?_eq_some_iff.1 hf).1
    obtain rfl | rfl | rfl | rfl | rfl : j = 0 ∨ j = 1 ∨ j = 2 ∨ j = 3 ∨ j = 4 := by omega
    all_goals
      cases hf
      exact Try.underlying3) h1
  cases hz
  cases h5
  exact ⟨(z, a, b, c, d, e), rfl, hw, wa, wb, wc, wd, we⟩

theorem open_ents {r : Reach} {b0 : Nat} {v : Value} {d : DataW H} {p : List MemPlace} (hv : Value.okWide Try.prog w r b0 35 v) (h : DataW.Trod enc Try.prog w base spare held 35 v d p) :
    ∃ (A : Option Addr) (l : List Ent) (c : Nat), v = .slice A l.length c ∧ l.length ≤ c ∧ c ≤ 9223372036854775807 ∧ Ents w w.heap.size A l ∧ ∀ e ∈ l, wfEnt e := by
  obtain ⟨A, len, cap, rfl, h1, h2, h3⟩ := open_rows_any Try.underlying35 (C := 6) (by kernel_rfl) (by omega) hv h
  have h2' : cap ≤ 9223372036854775807 := by simp only [maxLen] at h2; omega
  rcases Nat.eq_zero_or_pos len with h0 | h0
  · subst h0
    exact ⟨A, [], cap, rfl, h1, h2', Ents.nil, by simp⟩
  · obtain ⟨b, off, rfl, hb, hrow⟩ := h3 h0
    obtain ⟨l, hl, hp⟩ := list_of (p := fun i e => EntAt w b (off + i * 6) e ∧ wfEnt e) len (fun i hi => by
      obtain ⟨cs, n, y, hcl, hcell, ht⟩ := hrow i hi
      obtain ⟨e, rfl, hw⟩ := open_ent ht
      exact ⟨e, ⟨hcell 0 (by omega), hcell 1 (by omega), hcell 2 (by omega), hcell 3 (by omega), hcell 4 (by omega), hcell 5 (by omega)⟩, hw⟩)
    subst hl
    refine ⟨_, l, cap, rfl, h1, h2', fun _ => ⟨b, off, rfl, hb, fun i e he => (hp i e he).1⟩, fun e he => ?_⟩
    obtain ⟨i, hi⟩ := List.getElem?_of_mem he
    exact (hp i e hi).2
end
end Go.Proofs.Ytdphfhenjndkkaa

set_option linter.unusedSimpArgs false
set_option linter.unusedVariables false
set_option maxRecDepth 100000
namespace Go.Proofs.Ytdphfhenjndkkaa
open Go Go.ChangeShapes Go.WideShapes Go.RowKit Go.Sq Go.Wd Go.Deep

/-- These numbers stand at A, below block B. -/
def Nums (w : World) (B : Nat) (A : Option Addr) (k : IntKind) (l : List Int) : Prop :=
  0 < l.length → ∃ b off, A = some ⟨b, off, none⟩ ∧ b < B ∧ ∀ i x, l[i]? = some x → w.cell? ⟨b, off + i, none⟩ = some (.int k x)
theorem Nums.below {w w' : World} {B : Nat} {A : Option Addr} {k : IntKind} {l : List Int} (h : Nums w B A k l) (hb : Below B w w') : Nums w' B A k l := fun hl => by
  obtain ⟨b, off, ha, hB, hc⟩ := h hl
  exact ⟨b, off, ha, hB, fun i e he => (hb.cell (p := ⟨b, _, none⟩) hB).trans (hc i e he)⟩
theorem Nums.more {w : World} {B B' : Nat} {A : Option Addr} {k : IntKind} {l : List Int} (h : Nums w B A k l) (hB : B ≤ B') : Nums w B' A k l := fun hl => by
  obtain ⟨b, off, ha, hb, hc⟩ := h hl
  exact ⟨b, off, ha, by omega, hc⟩
/-- One of them. -/
theorem Nums.at_ {w : World} {B : Nat} {A : Option Addr} {k : IntKind} {l : List Int} (h : Nums w B A k l) {j : Nat} (hj : j < l.length) :
    ∃ b off x, A = some ⟨b, off, none⟩ ∧ Hid (l[j]? = some x) ∧ ∀ w', Below B w w' → w'.cell? ⟨b, off + j, none⟩ = some (.int k x) := by
  obtain ⟨b, off, ha, hB, hc⟩ := h (by omega)
  have he := List.getElem?_eq_getElem hj
  exact ⟨b, off, _, ha, Lib.hid he, fun w' hb => (hb.cell (p := ⟨b, _, none⟩) hB).trans (hc j _ he)⟩
section
variable {H : Type} {enc : TypeId × Value → H} {P : Program} {w : World} {base : Nat} {spare : Nat → Bool} {held : Bool}
theorem open_slice_nums {r : Reach} {b0 : Nat} {t e : TypeId} {k : IntKind} {v : Value} {d : DataW H} {p : List MemPlace} (ht : P.underlying t = some (.slice e)) (he : P.underlying e = some (.int k))
    (hC : P.cellsOf e = 1) (hv : Value.okWide P w r b0 t v) (h : DataW.Trod enc P w base spare held t v d p) :
    ∃ (A : Option Addr) (l : List Int) (c : Nat), v = .slice A l.length c ∧ l.length ≤ c ∧ c ≤ 9223372036854775807 ∧ Nums w w.heap.size A k l ∧ ∀ x ∈ l, (Lit.int k x).wf = true := by
  obtain ⟨A, len, cap, rfl, h1, h2, h3⟩ := open_rows_any ht (C := 1) hC (by omega) hv h
  have h2' : cap ≤ 9223372036854775807 := by simp only [maxLen] at h2; omega
  rcases Nat.eq_zero_or_pos len with h0 | h0
  · subst h0
    exact ⟨A, [], cap, rfl, h1, h2', fun h => absurd h (by simp), by simp⟩
  · obtain ⟨b, off, rfl, hb, hrow⟩ := h3 h0
    obtain ⟨l, hl, hp⟩ := list_of (p := fun i x => w.cell? ⟨b, off + i, none⟩ = some (.int k x) ∧ (Lit.int k x).wf = true) len (fun i hi => by
      obtain ⟨cs, n, y, hcl, hcell, ht⟩ := hrow i hi
      obtain ⟨z, hz, _, hw⟩ := DataW.trod_int he ht
      refine ⟨z, ?_, hw⟩
      have := hcell 0 (by omega)
      rw [hz] at this
      simpa using this)
    subst hl
    refine ⟨_, l, cap, rfl, h1, h2', fun _ => ⟨b, off, rfl, hb, fun i e he => (hp i e he).1⟩, fun e he => ?_⟩
    obtain ⟨i, hi⟩ := List.getElem?_of_mem he
    exact (hp i e hi).2
end
end Go.Proofs.Ytdphfhenjndkkaa

set_option linter.unusedSimpArgs false
set_option linter.unusedVariables false
set_option maxRecDepth 100000
namespace Go.Proofs.Ytdphfhenjndkkaa
open Go Go.RowKit Go.Sq Go.Wd Go.Arch Go.Im

/-- One piece of mail, said by the spec. -/
def pieceS (st : RegS × (Int → Option (Int × Int)) × Int) (m : MailS) (t : Option Int) : RegS × (Int → Option (Int × Int)) × Int :=
  let now := st.2.2 + t.getD 0
  let y : MailS := { m with stream := 1 }
  let a := takeS st.1 (mayL 0 (st.2.1 y.stream) y.epoch now) y
  (appliedS st.1 a.recs, bookG a.act st.2.1 y.stream y.epoch now, now)
def plS (L : List MailV) (ts : List Int) : Nat → RegS × (Int → Option (Int × Int)) × Int
  | 0 => (reg0, (fun _ => none), 0)
  | k + 1 => match L[k]? with
    | some x => pieceS (plS L ts k) x.m ts[k]?
    | none => plS L ts k
theorem plS_succ {L : List MailV} {ts : List Int} {k : Nat} {x : MailV} {r : RegS} {G : Int → Option (Int × Int)} {nv nv2 : Int} (hx : L[k]? = some x) (h : plS L ts k = (r, G, nv)) (hn : nv + (ts[k]?).getD 0 = nv2) :
    plS L ts (k + 1) = (appliedS r (takeS r (mayL 0 (G (st1 x).m.stream) (st1 x).m.epoch nv2) (st1 x).m).recs, bookG (takeS r (mayL 0 (G (st1 x).m.stream) (st1 x).m.epoch nv2) (st1 x).m).act G (st1 x).m.stream (st1 x).m.epoch nv2, nv2) := by
  show (match L[k]? with | some x => pieceS (plS L ts k) x.m ts[k]? | none => plS L ts k) = _
  rw [hx, h, ← hn]
  rfl

def PlayedP (l : List MailV) (ts : List Int) (w : World) (e : Ending) (w' : World) : Prop :=
  ∃ (q : RegS) (s : SlcE) (b m n : Nat) (nv : Int) (G : Int → Option (Int × Int)), e = .returned (.tuple #[.agg (rgv q s).toArray, .pointer (some ⟨b, 0, none⟩), .int .i64 nv]) ∧ plS l ts l.length = (q, G, nv) ∧
    (0 ≤ nv ∧ nv ≤ 255 * l.length) ∧ n ≤ l.length ∧ mayR q = true ∧ LogF w.heap.size w' s q.log ∧ Bk w' b m n 0 G ∧ Below w.heap.size w w' ∧ w.heap.size ≤ m

theorem results_blk_tmp2 {P : Program} {fn : Func} {p q q' : Tmp} {ty : TypeId} (h : fn.results = #[.cell p ty, .tmp q, .tmp q']) (tmps : Array Value) (w : World) (g : Nat) (t : TypeId) (cs : List Value) (d : TypeDesc)
    (hp : tmps.getD p undef = .pointer (some ⟨g, 0, none⟩)) (hg : Blk w g t cs) (hu : P.underlying ty = some d) (hd : (match d with | .struct _ | .array _ _ => true | _ => false) = true) (hi : (P.info? ty).map (·.size) = some cs.length)
    (v v' : Value) (hv : tmps.getD q undef = v) (hv' : tmps.getD q' undef = v') : (results fn tmps).run P w = .ok (.tuple #[.agg cs.toArray, v, v']) w := by
  have hp' : tmps[p]?.getD undef = .pointer (some ⟨g, 0, none⟩) := by simpa using hp
  have h1 : tmps[q]?.getD undef = v := by simpa using hv
  have h2 : tmps[q']?.getD undef = v' := by simpa using hv'
  simp [results, h, hp', h1, h2, asAddr, run_loadVar_row w g t ty cs.toArray (0, 0) d hg hu hd (by simpa using hi)]
/-- Between two pieces: the register, the book, the answer's block. -/
def PlI (w W : World) (gr : Nat) (r : RegS) (s : SlcE) (b m n : Nat) (G : Int → Option (Int × Int)) : Prop :=
  RfI w W gr r s b m n 0 G ∧ Blk W w.heap.size 37 (rgv reg0 (none, 0, 0)) ∧ w.heap.size < gr ∧ FarS w.heap.size s
theorem PlI.keep {w W W' : World} {gr : Nat} {r : RegS} {s : SlcE} {b m n : Nat} {G : Int → Option (Int × Int)} (h : PlI w W gr r s b m n G) (hb : Below W.heap.size W W') : PlI w W' gr r s b m n G :=
  ⟨h.1.keep hb, h.2.1.keep hb, h.2.2⟩
theorem PlI.take {w W W' : World} {gr : Nat} {r : RegS} {s : SlcE} {b m n n' : Nat} {G G' : Int → Option (Int × Int)} (h : PlI w W gr r s b m n G) (hB : Bk W' b m n' 0 G') (hK : Kept W W' (some m) none) : PlI w W' gr r s b m n' G' :=
  ⟨h.1.take hB hK, hK.blk h.2.1 (fun e => h.1.2.2.2.1.notBlk h.2.1 (Option.some.inj e)) (by simp), h.2.2⟩
theorem PlI.put {w W W' : World} {gr : Nat} {r q : RegS} {s s' : SlcE} {b m n : Nat} {G : Int → Option (Int × Int)} (h : PlI w W gr r s b m n G) (hq : LogF w.heap.size W s' q.log) (hB : Blk W' gr 37 (rgv q s')) (hg : W.grownBy W' (some gr)) : PlI w W' gr q s' b m n G :=
  ⟨h.1.put hq.1 hB hg, h.2.1.grown hg (fun e => by have := Option.some.inj e; have := h.2.2.1; omega), h.2.2.1, hq.2⟩
theorem PlI.last {w W W' : World} {gr : Nat} {r : RegS} {s : SlcE} {b m n : Nat} {G : Int → Option (Int × Int)} (h : PlI w W gr r s b m n G) (hg : W.grownBy W' (some w.heap.size)) : LogF w.heap.size W' s r.log ∧ Bk W' b m n 0 G ∧ Below w.heap.size w W' ∧ w.heap.size ≤ m :=
  ⟨⟨h.1.2.2.1.stored h.2.1 (by simp [rgv]) hg, h.2.2.2⟩, h.1.2.2.2.1.other h.2.1 ⟨_, rfl⟩ hg, h.1.1.trans (below_grown hg (Nat.le_refl _) h.1.1.size), h.1.2.2.2.2.1⟩

set_option maxHeartbeats 16000000 in
theorem played_any (l : List MailV) (A : Option Addr) (c : Nat) (ts : List Int) (At_ : Option Addr) (ct : Nat) (w : World) (hl : Mails w w.heap.size A l) (hf : Few l) (ht : Nums w w.heap.size At_ .u8 ts) (htn : ts.length ≤ 9223372036854775807) (ht8 : ∀ k ∈ ts, 0 ≤ k ∧ k ≤ 255) :
    Calls Try.prog 18 #[.slice A l.length c, .slice At_ ts.length ct] w (PlayedP l ts w) := by
  have HE := Lib.hid (And.intro hl (And.intro ht ht8))
  have HF := Lib.hid hf
  have hl60 := hf.1
  clear hl ht ht8 hf
  have hz := (Below.refl w.heap.size w).alloc (Nat.le_refl _) (.cells (rgv reg0 (none, 0, 0)).toArray 37)
  have bz := Blk.new w 37 (rgv reg0 (none, 0, 0))
  have HZ := Lib.hid (And.intro hz bz)
  clear hz bz
  go_enter Try.func18, Try.ntmps18
  go_wp2_with fail
  refine (lnew_any 0 (by decide) false _).mono ?_
  rintro e w2 ⟨b, m, rfl, hB2, hb2, hbb, hbm⟩
  have ha := (Below.refl w2.heap.size w2).alloc (Nat.le_refl _) (.cells (rgv reg0 (none, 0, 0)).toArray 37)
  have hw2 := below_trans HZ.out.1 hb2 HZ.out.1.size
  have hs : ∀ o, (w.alloc o).heap.size = w.heap.size + 1 := fun o => by simp
  have hR0 : PlI w (w2.alloc (.cells (rgv reg0 (none, 0, 0)).toArray 37)) w2.heap.size reg0 (none, 0, 0) b m 0 (fun _ => none) :=
    ⟨⟨below_trans hw2 ha hw2.size, Blk.new w2 _ _, LogAt.nil, hB2.below ha, by have h1 := hbm; rw [hs] at h1; omega, hw2.size⟩, (HZ.out.2.keep hb2).keep ha, by have h1 := hb2.size; rw [hs] at h1; omega, FarS.none⟩
  have HR0 := Lib.hid hR0
  clear hB2 hb2 hbb hbm hw2 ha hR0 HZ hs
  go_wp2_with fail
  refine abs_code (fun W => PlI w W w2.heap.size reg0 (none, 0, 0) b m 0 (fun _ => none)) HR0.out ?_
  clear HR0
  intro w3 h3
  generalize w2.heap.size = gr at h3 ⊢
  have H3 := Lib.hid h3
  clear h3
  go_loopg [9, 10] l.length (fun q nw i wr => ∃ (j n : Nat) (nv : Int) (r : RegS) (s : SlcE) (G : Int → Option (Int × Int)), q = l.length - j ∧ j ≤ l.length ∧ nw = .int .i64 nv ∧ i = .int .i64 j ∧ (0 ≤ nv ∧ nv ≤ 255 * j) ∧ n ≤ j ∧ plS l ts j = (r, G, nv) ∧ mayR r = true ∧ PlI w wr gr r s b m n G)
  case atStart => exact ⟨0, 0, 0, reg0, (none, 0, 0), fun _ => none, rfl, by omega, rfl, rfl, by omega, by omega, rfl, may_reg0, H3.out⟩
  case round =>
    clear H3
    obtain ⟨j, n, nv, r, s, G, hq, hj, rfl, rfl, ⟨v0, v1⟩, hnj, hpl, hmr, hI⟩ := hrel
    have AA : Aside (gk = l.length - j ∧ n ≤ j) := ⟨hq, hnj⟩
    clear hq hnj
    obtain ⟨wo, rfl⟩ : ∃ wo, wo = wr := ⟨_, rfl⟩
    have HI := Lib.hid (And.intro hI hmr)
    have HPL := Lib.hid hpl
    clear hI hmr hpl
    by_cases hlt : j < l.length
    · have j0 : (0 : Int) ≤ (j : Int) := by omega
      have j1 : (j : Int) < (l.length : Int) := by omega
      obtain ⟨b1, o1, x, rfl, hx, FA, HX⟩ := HE.out.1.range hlt
      have hx100 := Lib.hid (HF.out.2 x (List.mem_of_getElem? hx.out))
      have HFA := Lib.hid FA
      clear FA
      by_cases htk : j < ts.length
      case' pos =>
        have t1 : (j : Int) < (ts.length : Int) := by omega
        obtain ⟨b2, o2, k, rfl, hk, FT⟩ := HE.out.2.1.at_ htk
        have hkr := HE.out.2.2 k (List.mem_of_getElem? hk.out)
        have ck := FT _ HI.out.1.1.1
        have wk : IntKind.i64.wrap k = k := IntWalk.i64_in _ (by omega)
        have ws : IntKind.i64.wrap (nv + k) = nv + k := IntWalk.i64_in _ (by omega)
        have hv2 : ∃ nv2 : Int, nv + k = nv2 ∧ Hid (nv + (ts[j]?).getD 0 = nv2) ∧ 0 ≤ nv2 ∧ nv2 ≤ 255 * ((j : Int) + 1) := ⟨_, rfl, Lib.hid (by rw [hk.out]; rfl), by omega, by omega⟩
        clear FT hkr
      case' neg =>
        have t1 : ¬ (j : Int) < (ts.length : Int) := by omega
        have hv2 : ∃ nv2 : Int, nv = nv2 ∧ Hid (nv + (ts[j]?).getD 0 = nv2) ∧ 0 ≤ nv2 ∧ nv2 ≤ 255 * ((j : Int) + 1) := ⟨_, rfl, Lib.hid (by rw [List.getElem?_eq_none (by omega)]; simp), by omega, by omega⟩
      all_goals
        obtain ⟨nv2, hvv, HV2, u0, u1⟩ := hv2
        have HP2 := Lib.hid (plS_succ hx.out HPL.out HV2.out)
        have HV := Lib.hid hvv
        clear HV2 HPL
        try clear hvv
        go_wp2_with ((with_reducible refine at_list ?_); (with_reducible refine cut_at 34 rfl ?_))
        refine Cut.go ?_
        try rw [HV.out]
        clear HV t1
        try clear ck wk ws
        go_wp2_with ((with_reducible refine at_list ?_); first | (with_reducible refine cut_at 36 rfl ?_) | (refine wpList_load_mid rfl 43 _ rfl _ _ rfl _ _ (HFA.out _ HI.out.1.1.1) Try.underlying43 rfl mail_info ?_) | (refine wpList_store_own rfl 43 _ _ rfl _ (mailv x) rfl rfl _ _ (Blk.new wo 43 (mailv backV0)) mail_info rfl (mail_one _) ?_; intro w4 B4 g4))
        refine Cut.go ?_
        have hb4 := below_new g4
        have c3 : w4.cell? ⟨wo.heap.size, 3, none⟩ = some (.int .i64 x.m.stream) := B4.cell 3
        have z3 : w4.frozen? ⟨wo.heap.size, 3, none⟩ = false := B4.frozen 3
        have hbx : Below wo.heap.size wo (w4.setCell ⟨wo.heap.size, 3, none⟩ (.int .i64 1)) := hb4.trans (below_grown (only_setCell (World.grownBy.refl w4 (some wo.heap.size)) (p := ⟨wo.heap.size, 3, none⟩) (.inl rfl) _) (Nat.le_refl _) hb4.size)
        have hI5 := HI.out.1.keep hbx
        have HJ := Lib.hid (show PlI w (w4.setCell ⟨wo.heap.size, 3, none⟩ (.int .i64 1)) gr r s b m n G ∧ Blk (w4.setCell ⟨wo.heap.size, 3, none⟩ (.int .i64 1)) wo.heap.size 43 (mailv (st1 x)) ∧ LogAt (w4.setCell ⟨wo.heap.size, 3, none⟩ (.int .i64 1)) (w4.setCell ⟨wo.heap.size, 3, none⟩ (.int .i64 1)).heap.size (st1 x).es (st1 x).m.ents from
          ⟨hI5, by rw [← st1_set]; exact B4.set 3 _, (HX.out.below hI5.1.1).more hI5.1.1.size⟩)
        have HMR := Lib.hid HI.out.2
        clear hb4 hbx hI5 B4 g4 HI
        go_wp2_with ((with_reducible refine at_list ?_); (with_reducible refine cut_at 38 rfl ?_))
        refine Cut.go ?_
        clear c3 z3
        refine abs_list (fun W => PlI w W gr r s b m n G ∧ Blk W wo.heap.size 43 (mailv (st1 x)) ∧ LogAt W W.heap.size (st1 x).es (st1 x).m.ents) HJ.out ?_
        clear HJ
        intro w5 h5
        generalize wo.heap.size = gm at h5 ⊢
        have hx1 : (st1 x).m.ents.length ≤ 100 := hx100.out
        obtain ⟨xx, hxx⟩ : ∃ xx, st1 x = xx := ⟨_, rfl⟩
        rw [hxx] at h5 hx1 HP2
        clear hxx
        have H5 := Lib.hid (And.intro h5 hx1)
        clear h5 hx1
        go_wp2_with ((with_reducible refine at_list ?_); first | refine wpList_load_blk rfl 37 _ rfl _ rfl _ _ _ (H5.out.1.1.1.2.1) Try.underlying37 rfl rg_info ?_ | refine wpList_load_blk rfl 43 _ rfl _ rfl _ _ _ (H5.out.1.2.1) Try.underlying43 rfl mail_info ?_)
        refine (take_any r s b m n 0 G xx nv2 w5 H5.out.1.1.1.2.2.2.1 (by have := AA.out.2; unfold maxLen; omega) u0 H5.out.1.1.1.2.2.1 H5.out.1.2.2 (by have := H5.out.2; omega)).mono ?_
        rintro e w6 ⟨⟨A1, d1, A2, d2, xs, ys, rfl, hR, hM, hxs, hys, -, -⟩, hB6, hK6⟩
        have hen : ∀ y ∈ xs, y.ents.length ≤ 1000 := fun y hy => by
          have h1 := take_ents r _ xx.m y.s (by rw [← hxs]; exact List.mem_map_of_mem hy)
          have h2 := (may_com HMR.out).2.2
          have h3 := H5.out.2
          have h4 : y.s.ents = y.ents := rfl
          rw [h4] at h1
          omega
        have hfx : xs.length ≤ 2 := by
          have h1 := (take_few r (mayL 0 (G xx.m.stream) xx.m.epoch nv2) xx.m).1
          rw [← hxs, List.length_map] at h1
          exact h1
        have hI6 := H5.out.1.1.take hB6 hK6
        have hst := stays_applied (xs.map RecV.s) r HMR.out
        have hP := HP2.out
        rw [← hxs] at hP
        have H6 := Lib.hid (And.intro hI6 (And.intro hR (And.intro hen (And.intro hfx (And.intro hst hP)))))
        clear hI6 hR hM hen hfx hxs hys hB6 hK6 H5 hst hP HP2
        go_wp2_with ((with_reducible refine at_list ?_); first | refine wpList_load_blk rfl 37 _ rfl _ rfl _ _ _ (H6.out.1.1.2.1) Try.underlying37 rfl rg_info ?_)
        refine (applied_far w.heap.size r s xs A1 d1 w6 H6.out.1.1.1.size ⟨H6.out.1.1.2.2.1, H6.out.1.2.2.2⟩ H6.out.2.1 (by have := H6.out.2.2.2.1; omega) H6.out.2.2.1).mono ?_
        rintro e w7 ⟨s7, rfl, hL7, hb7⟩
        have HP7 := Lib.hid H6.out.2.2.2.2
        have H7 := Lib.hid (And.intro (H6.out.1.keep hb7) hL7)
        clear hL7 hb7 H6
        obtain ⟨q, hq⟩ : ∃ q, appliedS r (xs.map RecV.s) = q := ⟨_, rfl⟩
        rw [hq] at H7 HP7 ⊢
        clear hq
        go_wp2_with ((with_reducible refine at_list ?_); first | (refine wpList_store_own rfl 37 _ _ rfl _ (rgv q s7) rfl rfl _ _ (H7.out.1.1.2.1) rg_info rfl (rgv_one _ _) ?_; intro w8 B8 g8))
        go_roundg (l.length - (j + 1))
        case measure => have hkk := AA.out; omega
        case rel => exact ⟨j + 1, n + 1, nv2, q, s7, _, rfl, by omega, rfl, by go_num, by omega, by have hkk := AA.out; omega, HP7.out.2, HP7.out.1.1, H7.out.1.put H7.out.2 B8 g8⟩
    · obtain rfl : j = l.length := by omega
      have j1 : ¬ (l.length : Int) < (l.length : Int) := by omega
      go_wp2_with ((with_reducible refine at_list ?_); first | refine wpList_load_blk rfl 37 _ rfl _ rfl _ _ _ (HI.out.1.1.2.1) Try.underlying37 rfl rg_info ?_ | (refine wpList_store_own rfl 37 _ _ rfl _ (rgv r s) rfl rfl _ _ (HI.out.1.2.1) rg_info rfl (rgv_one _ _) ?_; intro w4 B4 g4))
      have hL := HI.out.1.last g4
      apply ret_of
      · exact results_blk_tmp2 rfl _ _ _ _ _ _ rfl B4 Try.underlying37 rfl rg_info _ _ rfl rfl
      exact ⟨rfl, r, s, b, m, n, nv, G, rfl, HPL.out, ⟨v0, v1⟩, AA.out.2, HI.out.2, hL⟩
end Go.Proofs.Ytdphfhenjndkkaa

set_option linter.unusedSimpArgs false
set_option linter.unusedVariables false
set_option maxRecDepth 100000
namespace Go.Proofs.Ytdphfhenjndkkaa
open Go Go.RowKit Go.Sq Go.Wd Go.Arch Go.Im

theorem Mails.turned {w w' : World} {b m n : Nat} {gr : Int} {G : Int → Option (Int × Int)} {A : Option Addr} {l : List MailV} (h : Mails w w.heap.size A l) (hB : Bk w b m n gr G) (hK : Kept w w' (some m) none) : Mails w' w'.heap.size A l := by
  refine ⟨fun hl => ?_, fun x hx => (h.2 x hx).turned hB hK⟩
  obtain ⟨g, off, ha, hb, hc⟩ := h.1 hl
  obtain ⟨es, clock, hm⟩ := hB.map
  have hne : g ≠ m := by
    rintro rfl
    obtain ⟨e, he⟩ : ∃ e, l[0]? = some e := ⟨_, List.getElem?_eq_getElem hl⟩
    have c0 := hc 0 e he 0 (by show 0 < 18; omega)
    simp [World.cell?, hm] at c0
    cases c0
  have hk := hK.2.2.2.2 g hb (fun e => hne (Option.some.inj e)) (by simp)
  exact ⟨g, off, ha, Nat.lt_of_lt_of_le hb hK.2.2.2.1, fun i e he k hk' => (World.cell?_of_block (a := ⟨g, _, none⟩) hk).trans (hc i e he k hk')⟩
theorem Mails.stored {w w' : World} {g : Nat} {A : Option Addr} {l : List MailV} {T : TypeId} {cs : List Value} (h : Mails w w.heap.size A l) (hZ : Blk w g T cs) (hc : cs.length ≤ 17) (hs : ∀ x ∈ l, LogAt w' w'.heap.size x.es x.m.ents) (hg : w.grownBy w' (some g)) : Mails w' w'.heap.size A l := by
  refine ⟨fun hl => ?_, hs⟩
  obtain ⟨b, off, ha, hb, he⟩ := h.1 hl
  have hne : b ≠ g := by
    rintro rfl
    obtain ⟨e, h0⟩ : ∃ e, l[0]? = some e := ⟨_, List.getElem?_eq_getElem hl⟩
    have c0 := he 0 e h0 17 (by show 17 < 18; omega)
    rw [hZ.cell, List.getElem?_eq_none (by omega)] at c0
    cases c0
  have hk := hg.block b hb (fun e => hne (Option.some.inj e))
  exact ⟨b, off, ha, Nat.lt_of_lt_of_le hb hg.size, fun i e h0 k hk' => (World.cell?_of_block (a := ⟨b, _, none⟩) hk).trans (he i e h0 k hk')⟩
/-- Between two answers: the register, the book, the mail. -/
def TwI (w W : World) (gr gm : Nat) (r : RegS) (s : SlcE) (b m n : Nat) (G : Int → Option (Int × Int)) (x : MailV) : Prop :=
  RfI w W gr r s b m n 0 G ∧ Blk W gm 43 (mailv x) ∧ LogAt W W.heap.size x.es x.m.ents
section
variable {w W W' : World} {gr gm : Nat} {r q : RegS} {s s' : SlcE} {b m n n' : Nat} {G G' : Int → Option (Int × Int)} {x : MailV}
theorem TwI.keep (h : TwI w W gr gm r s b m n G x) (hb : Below W.heap.size W W') : TwI w W' gr gm r s b m n G x :=
  ⟨h.1.keep hb, h.2.1.keep hb, h.2.2.keep hb⟩
theorem TwI.take (h : TwI w W gr gm r s b m n G x) (hB : Bk W' b m n' 0 G') (hK : Kept W W' (some m) none) : TwI w W' gr gm r s b m n' G' x :=
  ⟨h.1.take hB hK, hK.blk h.2.1 (fun e => h.1.2.2.2.1.notBlk h.2.1 (Option.some.inj e)) (by simp), h.2.2.turned h.1.2.2.2.1 hK⟩
theorem TwI.put (h : TwI w W gr gm r s b m n G x) (hq : LogAt W W.heap.size s' q.log) (hB : Blk W' gr 37 (rgv q s')) (hg : W.grownBy W' (some gr)) : TwI w W' gr gm q s' b m n G x :=
  ⟨h.1.put hq hB hg, h.2.1.grown hg (fun e => by
    obtain rfl := Option.some.inj e
    have h1 := h.1.2.1.cell 9
    have h2 := h.2.1.cell 9
    rw [h1] at h2
    cases h2), h.2.2.stored h.1.2.1 (by simp [rgv]) hg⟩
theorem TwI.mark (h : RfI w W gr r s b m n 0 G) (hm : Blk W w.heap.size 43 (mailv x)) (hne : gr ≠ w.heap.size) (hF : FarS (w.heap.size + 1) s) (hx : LogAt w w.heap.size x.es x.m.ents) :
    TwI w (W.setCell ⟨w.heap.size, 3, none⟩ (.int .i64 1)) gr w.heap.size r s b m n G (st1 x) := by
  have hg : W.grownBy (W.setCell ⟨w.heap.size, 3, none⟩ (.int .i64 1)) (some w.heap.size) := only_setCell (World.grownBy.refl W (some w.heap.size)) (p := ⟨w.heap.size, 3, none⟩) (.inl rfl) _
  have hb := h.1.trans (below_grown hg (Nat.le_refl _) h.1.size)
  refine ⟨⟨hb, h.2.1.grown hg (fun e => hne (Option.some.inj e)), h.2.2.1.apart (Nat.le_refl _) hg (fun b o ho hbg => ?_), h.2.2.2.1.other hm ⟨_, rfl⟩ hg, h.2.2.2.2⟩, ?_, (hx.below hb).more hb.size⟩
  · have := hF b o ho
    omega
  · rw [← st1_set]
    exact hm.set 3 _
end
end Go.Proofs.Ytdphfhenjndkkaa

set_option linter.unusedSimpArgs false
set_option linter.unusedVariables false
set_option maxRecDepth 100000
namespace Go.Proofs.Ytdphfhenjndkkaa
open Go Go.RowKit Go.Sq Go.Wd Go.Arch Go.Im

/-- Only stream 1 was ever granted. -/
def RBz (E U : Nat → Int) : Prop := E 0 = 0 ∧ U 0 = 0 ∧ E 2 = 0 ∧ U 2 = 0 ∧ E 3 = 0 ∧ U 3 = 0
theorem upN_off {E : Nat → Int} {v : Int} {k : Nat} (hk : k ≠ 1) : upN E 1 v k = E k := if_neg (by omega)
theorem RBz.grant {E U : Nat → Int} {ep now : Int} (h : RBz E U) : RBz (rgrantE E U 1 ep) (rgrantU E U 1 ep now) := by
  obtain ⟨h1, h2, h3, h4, h5, h6⟩ := h
  unfold rgrantE rgrantU
  split
  · refine ⟨?_, ?_, ?_, ?_, ?_, ?_⟩ <;> (rw [upN_off (by decide)]; assumption)
  · exact ⟨h1, h2, h3, h4, h5, h6⟩
theorem RBz.release {E U : Nat → Int} {ep : Int} (h : RBz E U) : RBz E (rrelU E U 1 ep) := by
  obtain ⟨h1, h2, h3, h4, h5, h6⟩ := h
  unfold rrelU
  split
  · refine ⟨h1, ?_, h3, ?_, h5, ?_⟩ <;> (rw [upN_off (by decide)]; assumption)
  · exact ⟨h1, h2, h3, h4, h5, h6⟩
theorem RBz.book {E U : Nat → Int} {ep now : Int} {act : Nat} (h : RBz E U) : RBz (bookE act E U 1 ep) (bookU act E U 1 ep now) := by
  unfold bookE bookU
  by_cases h1 : act = 1
  · rw [if_pos h1, if_pos h1]; exact h.grant
  · rw [if_neg h1, if_neg h1]
    by_cases h2 : act = 2
    · rw [if_pos h2]; exact h.release
    · rw [if_neg h2]; exact h
theorem RB.int {w : World} {rb k : Nat} {gr : Int} {E U : Nat → Int} {v : Value} (h : RB w rb gr E U) (hv : w.cell? ⟨rb, k, none⟩ = some v) : k < 9 ∧ ∃ z, v = .int .i64 z := by
  rw [Blk.cell h k] at hv
  have hk := (List.getElem?_eq_some_iff.1 hv).1
  have hk9 : k < 9 := hk
  refine ⟨hk9, ?_⟩
  obtain rfl | rfl | rfl | rfl | rfl | rfl | rfl | rfl | rfl : k = 0 ∨ k = 1 ∨ k = 2 ∨ k = 3 ∨ k = 4 ∨ k = 5 ∨ k = 6 ∨ k = 7 ∨ k = 8 := by omega
  all_goals exact ⟨_, (Option.some.inj hv).symm⟩
/-- A log of entries that may be doesn't lie in the book. -/
theorem LogAt.rb {w w' : World} {rb : Nat} {gr v : Int} {E U : Nat → Int} {sl : SlcE} {l : List Ent} (h : LogAt w w.heap.size sl l) (ho : ∀ e ∈ l, okEnt v e = true) (hR : RB w rb gr E U) (hz : RBz E U) (hg : w.grownBy w' (some rb)) : LogAt w' w'.heap.size sl l := by
  rcases Nat.eq_zero_or_pos l.length with h0 | h0
  · obtain rfl : l = [] := List.eq_nil_of_length_eq_zero h0
    exact ⟨h.1, h.2.1, h.2.2.1, Ents.nil⟩
  · refine h.apart (Nat.le_refl _) hg (fun b o hbo hbg => ?_)
    subst hbg
    obtain ⟨b2, off, ha, hb, hE⟩ := h.2.2.2 h0
    rw [hbo] at ha
    cases ha
    obtain ⟨e, he⟩ : ∃ e, l[0]? = some e := ⟨_, List.getElem?_eq_getElem h0⟩
    obtain ⟨c0, c1, c2, c3, c4, c5⟩ := hE 0 e he
    have hok := ho e (List.mem_of_getElem? he)
    unfold okEnt ordOk ordE at hok
    simp only [Bool.and_eq_true, decide_eq_true_eq] at hok
    obtain ⟨⟨o1, o2⟩, o3, -, -, -, -, -, o4, -⟩ := hok
    obtain ⟨z1, z2, z3, z4, z5, z6⟩ := hz
    have hk := (hR.int c5).1
    rw [Nat.zero_mul, Nat.add_zero] at c0 c1 c4 hk
    obtain rfl | rfl | rfl | rfl : o = 0 ∨ o = 1 ∨ o = 2 ∨ o = 3 := by omega
    · have h1 : w.cell? ⟨b, 1, none⟩ = some (.int .i64 (E 0)) := Blk.cell hR 1
      rw [h1] at c1
      have := Value.int.inj (Option.some.inj c1)
      omega
    · have h1 : w.cell? ⟨b, 1, none⟩ = some (.int .i64 (E 0)) := Blk.cell hR 1
      rw [h1] at c0
      have := Value.int.inj (Option.some.inj c0)
      omega
    · have h1 : w.cell? ⟨b, 2, none⟩ = some (.int .i64 (U 0)) := Blk.cell hR 2
      rw [h1] at c0
      have := Value.int.inj (Option.some.inj c0)
      omega
    · have h1 : w.cell? ⟨b, 7, none⟩ = some (.int .i64 (E 3)) := Blk.cell hR 7
      rw [h1] at c4
      have := Value.int.inj (Option.some.inj c4)
      omega
theorem Rcs.rb {w w' : World} {rb : Nat} {gr : Int} {E U : Nat → Int} {A : Option Addr} {l : List RecV} (h : Rcs w w.heap.size A l) (hR : RB w rb gr E U) (hg : w.grownBy w' (some rb)) (hs : ∀ x ∈ l, LogAt w' w'.heap.size x.es x.ents) : Rcs w' w'.heap.size A l := by
  refine ⟨fun hl => ?_, hs⟩
  obtain ⟨g, off, ha, hb, he⟩ := h.1 hl
  have hne : g ≠ rb := by
    rintro rfl
    obtain ⟨e, h0⟩ : ∃ e, l[0]? = some e := ⟨_, List.getElem?_eq_getElem hl⟩
    have c0 := he 0 e h0 6 (by show 6 < 8; omega)
    obtain ⟨-, z, hz⟩ := hR.int (c0.trans rfl)
    cases hz
  have hk := hg.block g hb (fun e => hne (Option.some.inj e))
  exact ⟨g, off, ha, Nat.lt_of_lt_of_le hb hg.size, fun i e h0 k hk' => (World.cell?_of_block (a := ⟨g, _, none⟩) hk).trans (he i e h0 k hk')⟩
theorem Mails.rb {w w' : World} {rb : Nat} {gr : Int} {E U : Nat → Int} {A : Option Addr} {l : List MailV} (h : Mails w w.heap.size A l) (hR : RB w rb gr E U) (hg : w.grownBy w' (some rb)) (hs : ∀ x ∈ l, LogAt w' w'.heap.size x.es x.m.ents) : Mails w' w'.heap.size A l :=
  h.stored hR (by simp) hs hg
/-- The document's Take. -/
def RTakeP (S : Said) (rb : Nat) (gr : Int) (E U : Nat → Int) (m : MailS) (now : Int) (w : World) (e : Ending) (w' : World) : Prop :=
  Answer S e w' ∧ RB w' rb gr (bookE S.act E U m.stream m.epoch) (bookU S.act E U m.stream m.epoch now) ∧ Kept w w' (some rb) none
theorem RTakeP.pure {S : Said} {rb : Nat} {gr : Int} {E U : Nat → Int} {m : MailS} {now : Int} {w w' : World} {e : Ending} (h : S.act = 0) (hA : Answer S e w') (hR : RB w rb gr E U) (hb : Below w.heap.size w w') : RTakeP S rb gr E U m now w e w' :=
  ⟨hA, by rw [h]; exact Blk.keep hR hb, Kept.ofBelow hb _ _⟩
/-- Entries that are handed back may be. -/
theorem okLog_mem {l : List Ent} {v : Int} (h : okLog l v = true) : ∀ e ∈ l, okEnt v e = true := ((okLog_iff _ _).1 h).2.1
theorem may_ents {r : RegS} (h : mayR r = true) : ∀ e ∈ r.log, okEnt r.view e = true := okLog_mem ((mayR_iff r).1 h).2.1
theorem view_ents {r q : RegS} {x : RecS} (hk : x.kind = 2) (h : applyR r x = some q) : ∀ e ∈ x.ents, okEnt x.epoch e = true := by
  intro e he
  rcases apply_cases h with ⟨k, _⟩ | ⟨_, _, h5, _⟩ | ⟨k, _⟩ | ⟨k, _⟩
  · omega
  · exact okLog_mem h5 e (List.mem_append_right _ he)
  · omega
  · omega
def OkE (l : List Ent) : Prop := ∃ v, ∀ e ∈ l, okEnt v e = true
theorem OkE.nil : OkE [] := ⟨0, by simp⟩
theorem grown_ok {r q : RegS} {m : MailS} {l : List RecS} (h : grownS r m = some (l, q)) : ∀ y ∈ l, OkE y.ents := by
  intro y hy
  unfold grownS at h
  split at h
  · split at h
    · cases h; cases hy
    · split at h
      · cases hA : applyR r (recV m r.log.length ((joinM r m).drop r.log.length)) with
        | none => rw [hA] at h; cases h
        | some a =>
          rw [hA] at h
          cases h
          rw [List.mem_singleton.1 hy]
          exact ⟨_, view_ents rfl hA⟩
      · cases h
  · cases hA : applyR r (recV m m.base m.ents) with
    | none => rw [hA] at h; cases h
    | some a =>
      rw [hA] at h
      cases h
      rw [List.mem_singleton.1 hy]
      exact ⟨_, view_ents rfl hA⟩
theorem com_ok {q : RegS} {m : MailS} : ∀ y ∈ comS q m, OkE y.ents := by
  intro y hy
  unfold comS at hy
  split at hy
  · rw [List.mem_singleton.1 hy]; exact OkE.nil
  · cases hy
theorem take_ok (r : RegS) (may : Bool) (m : MailS) : (∀ y ∈ (takeS r may m).recs, OkE y.ents) ∧ ∀ y ∈ (takeS r may m).back, OkE y.ents := by
  have one : ∀ {z : MailS}, z.ents = [] → ∀ y ∈ [z], OkE y.ents := fun hz y hy => by rw [List.mem_singleton.1 hy, hz]; exact OkE.nil
  unfold takeS
  split
  case isFalse => exact ⟨by simp [nothing], by simp [nothing]⟩
  case isTrue hok =>
    split
    · unfold prepS
      split
      · refine ⟨fun y hy => ?_, fun y hy => ?_⟩
        · rw [List.mem_singleton.1 hy]; exact OkE.nil
        · rw [List.mem_singleton.1 hy]; exact ⟨_, may_ents hok.1⟩
      · exact ⟨by simp, one rfl⟩
    · split
      · unfold layS
        split
        · exact ⟨by simp, one rfl⟩
        split
        · exact ⟨by simp, one rfl⟩
        split
        · exact ⟨by simp [nothing], by simp [nothing]⟩
        case h_2 l q hg =>
          refine ⟨fun y hy => ?_, one rfl⟩
          rcases List.mem_append.1 hy with h | h
          · exact grown_ok hg y h
          · exact com_ok y h
      · split <;> exact ⟨by simp [nothing], by simp [nothing]⟩
/-- An answer stays where the document's book turns. -/
theorem ans_rb {w w' : World} {rb : Nat} {gr : Int} {E U : Nat → Int} {S : Said} {A1 A2 : Option Addr} {xs : List RecV} {ys : List MailV} (hx : Rcs w w.heap.size A1 xs) (hy : Mails w w.heap.size A2 ys) (h1 : xs.map RecV.s = S.recs) (h2 : ys.map MailV.m = S.back)
    (ho1 : ∀ y ∈ S.recs, OkE y.ents) (ho2 : ∀ y ∈ S.back, OkE y.ents) (hR : RB w rb gr E U) (hz : RBz E U) (hg : w.grownBy w' (some rb)) : Rcs w' w'.heap.size A1 xs ∧ Mails w' w'.heap.size A2 ys := by
  refine ⟨hx.rb hR hg fun x hm => ?_, hy.rb hR hg fun y hm => ?_⟩
  · obtain ⟨v, hv⟩ := ho1 x.s (by rw [← h1]; exact List.mem_map_of_mem hm)
    exact (hx.2 x hm).rb hv hR hz hg
  · obtain ⟨v, hv⟩ := ho2 y.m (by rw [← h2]; exact List.mem_map_of_mem hm)
    exact (hy.2 y hm).rb hv hR hz hg
end Go.Proofs.Ytdphfhenjndkkaa

set_option linter.unusedSimpArgs false
set_option linter.unusedVariables false
set_option maxRecDepth 100000
namespace Go.Proofs.Ytdphfhenjndkkaa
open Go Go.RowKit Go.Sq Go.Wd Go.Arch

theorem pre_unlike {l m : List Ent} {j : Nat} {x y : Ent} (hx : l[j]? = some x) (hy : m[j]? = some y) (h : x ≠ y) : ¬ m <+: l := by
  rintro ⟨t, rfl⟩
  have hj := (List.getElem?_eq_some_iff.1 hy).1
  rw [List.getElem?_append_left hj, hy] at hx
  exact h (Option.some.inj hx).symm

set_option maxHeartbeats 4000000 in
theorem begins_any (l m : List Ent) (A B : Option Addr) (c d : Nat) (w : World) (ha : Ents w w.heap.size A l) (hb : Ents w w.heap.size B m) (hl : l.length ≤ 9223372036854775807) (hm : m.length ≤ 9223372036854775807) :
    Calls Try.prog 72 #[.slice A l.length c, .slice B m.length d] w fun e w' => e = .returned (.bool (decide (m <+: l))) ∧ Below w.heap.size w w' := by
  have hw : Below w.heap.size w w := Below.refl _ _
  have H := Lib.hid (And.intro ha hb)
  clear ha hb
  by_cases hlm : l.length < m.length
  · have hlm1 : (l.length : Int) < (m.length : Int) := by omega
    have hlm' : ¬ m <+: l := fun e => by have := e.length_le; omega
    go_enter Try.func72, Try.ntmps72
    go_wp2_with fail
    go_ret
    exact ⟨ret_bool (by simp [hlm']), hw⟩
  · have hlm1 : ¬ (l.length : Int) < (m.length : Int) := by omega
    have hle : m.length ≤ l.length := by omega
    go_enter Try.func72, Try.ntmps72
    go_wp2_with fail
    clear hlm1
    go_loopg [5] m.length (fun k i wr => ∃ j : Nat, k = m.length - j ∧ j ≤ m.length ∧ i = .int .i64 j ∧ Below w.heap.size w wr ∧ l.take j = m.take j)
    case atStart => exact ⟨0, rfl, by omega, rfl, hw, by simp⟩
    case round =>
      clear hw
      obtain ⟨j, hk, hj, rfl, hwr, ht⟩ := hrel
      have AA : Aside (gk = m.length - j ∧ l.take j = m.take j) := ⟨hk, ht⟩
      clear hk ht
      by_cases hlt : j < m.length
      · have hjm : j < l.length := by omega
        obtain ⟨b1, o1, x, rfl, hx, FA⟩ := H.out.1.at_ hjm
        obtain ⟨b2, o2, y, rfl, hy, FB⟩ := H.out.2.at_ hlt
        go_wp2_with fail
        refine wp_region_p ([(0, true), (1, true), (2, true), (3, true), (4, true), (5, true), (6, true), (7, true), (8, true)]) (fun w' => Below w.heap.size w w') (by kernel_rfl) rfl (by kernel_rfl) (by kernel_rfl) (hwr.drew) rfl ?_
        intro KP RP TP hKP hTP hTP'
        simp only [pick, nth]
        go_wp2_with (first
          | (apply SeqP.skip; rfl; simp only [Act.put, List.setIfInBounds_toArray, List.set_cons_zero, List.set_cons_succ])
          | (apply SeqP.aggbin; (with_reducible rfl); (with_reducible exact Try.eqGuardType64); rfl; rfl; rfl; (exact (fun w => neq_ent w x y)); simp only [Act.put, List.setIfInBounds_toArray, List.set_cons_zero, List.set_cons_succ])
          | (apply SeqP.call; rfl; rfl; (intro w2 hw; have hw := hTP _ hw; ((obtain ⟨p0, p1, p2, p3, p4, p5⟩ := FA _ hw; obtain ⟨q0, q1, q2, q3, q4, q5⟩ := FB _ hw)); go_simp; exact ⟨rfl, rfl⟩); (intro w2 hw; have hw := hTP _ hw; ((obtain ⟨p0, p1, p2, p3, p4, p5⟩ := FA _ hw; obtain ⟨q0, q1, q2, q3, q4, q5⟩ := FB _ hw)); (first | fail)); simp only [Act.put, List.setIfInBounds_toArray, List.set_cons_zero, List.set_cons_succ])
          | (apply SeqP.pure; rfl; (intro w2 hw; have hw := hTP _ hw; ((obtain ⟨p0, p1, p2, p3, p4, p5⟩ := FA _ hw; obtain ⟨q0, q1, q2, q3, q4, q5⟩ := FB _ hw)); go_simp; with_reducible rfl); simp only [Act.put, List.setIfInBounds_toArray, List.set_cons_zero, List.set_cons_succ])
          | (apply SeqP.split; rfl; rfl; all_goals (intro hc; simp only [hc]; try simp only [beq_iff_eq, decide_eq_true_eq, beq_eq_false_iff_ne, decide_eq_false_iff_not, bne_iff_ne, ne_eq, Bool.not_eq_true', Bool.not_eq_false', Int.not_le, Int.not_lt, bne_eq_false_iff_eq, Bool.or_eq_true, Bool.and_eq_true, Bool.or_eq_false_iff] at hc)))
        apply SeqP.nil
        refine hKP _ _ (hTP' _ hwr.drew) ?_
        clear hKP hTP hTP' FA FB
        go_wp2_with fail
        · go_ret
          have hne : x ≠ y := by assumption
          exact ⟨ret_bool (by have := pre_unlike hx.out hy.out hne; simp [this]), hwr.drew⟩
        · go_roundg (m.length - (j + 1))
          case measure => have hkk := AA.out.1; omega
          case rel =>
            have hne : ¬ x ≠ y := by assumption
            obtain rfl : x = y := by simpa using hne
            exact ⟨j + 1, rfl, by omega, by go_num, hwr.drew, take_more AA.out.2 hx.out hy.out⟩
      · have hjN : j = m.length := by omega
        have heq : m <+: l := by
          have h := AA.out.2
          rw [hjN, List.take_length] at h
          rw [← h]
          exact List.take_prefix _ _
        go_wp2_with fail
        go_ret
        exact ⟨ret_bool (by simp [heq]), hwr⟩
theorem begins_sl (l m : List Ent) (sl sm : SlcE) (w : World) (hl : LogAt w w.heap.size sl l) (hm : LogAt w w.heap.size sm m) :
    Calls Try.prog 72 #[.slice sl.1 sl.2.1 sl.2.2, .slice sm.1 sm.2.1 sm.2.2] w fun e w' => e = .returned (.bool (decide (m <+: l))) ∧ Below w.heap.size w w' := by
  obtain ⟨A, n, c⟩ := sl
  obtain ⟨B, k, d⟩ := sm
  obtain rfl : n = l.length := hl.1
  obtain rfl : k = m.length := hm.1
  exact begins_any l m A B c d w hl.2.2.2 hm.2.2.2 (Nat.le_trans hl.2.1 hl.2.2.1) (Nat.le_trans hm.2.1 hm.2.2.1)

set_option maxHeartbeats 8000000 in
theorem samerec_any (x y : RecV) (w : World) (hs : y.s = x.s) (hf : x.fs = (none, 0, 0)) (hf2 : y.fs = (none, 0, 0)) (hx : LogAt w w.heap.size x.es x.ents) (hy : LogAt w w.heap.size y.es y.ents) :
    Calls Try.prog 46 #[.agg (rcv x).toArray, .agg (rcv y).toArray] w fun e w' => e = .returned (.bool true) ∧ Below w.heap.size w w' := by
  obtain ⟨k, s, ep, v, f, ln, es, ents, fs⟩ := x
  obtain ⟨k', s', ep', v', f', ln', es', ents', fs'⟩ := y
  obtain rfl : fs = (none, 0, 0) := hf
  obtain rfl : fs' = (none, 0, 0) := hf2
  cases hs
  obtain ⟨A, n, c⟩ := es
  obtain ⟨B, m, d⟩ := es'
  obtain rfl : n = ents.length := hx.1
  obtain rfl : m = ents.length := hy.1
  have hle : ents.length ≤ 9223372036854775807 := Nat.le_trans hx.2.1 hx.2.2.1
  have hz := ((Below.refl w.heap.size w).alloc (Nat.le_refl _) (.cells (rcv ⟨k, s, ep, v, f, ln, (A, ents.length, c), ents, (none, 0, 0)⟩).toArray 53)).alloc (by simp) (.cells (rcv ⟨k, s, ep, v, f, ln, (B, ents.length, d), ents, (none, 0, 0)⟩).toArray 53)
  have hs := same_any ents ents A B c d _ (hx.keep hz).2.2.2 (hy.keep hz).2.2.2 hle hle
  rw [decide_eq_true rfl] at hs
  have B1 := (Blk.new w 53 (rcv ⟨k, s, ep, v, f, ln, (A, ents.length, c), ents, (none, 0, 0)⟩)).alloc (.cells (rcv ⟨k, s, ep, v, f, ln, (B, ents.length, d), ents, (none, 0, 0)⟩).toArray 53)
  have B2 := Blk.newAt (w.alloc (.cells (rcv ⟨k, s, ep, v, f, ln, (A, ents.length, c), ents, (none, 0, 0)⟩).toArray 53)) 53 (rcv ⟨k, s, ep, v, f, ln, (B, ents.length, d), ents, (none, 0, 0)⟩) (H := w.heap.size + 1) (by simp)
  have r1 := B1.cell 7
  have r2 := B2.cell 7
  have HR : ∀ W, Below (w.heap.size + 1 + 1) ((w.alloc (.cells (rcv ⟨k, s, ep, v, f, ln, (A, ents.length, c), ents, (none, 0, 0)⟩).toArray 53)).alloc (.cells (rcv ⟨k, s, ep, v, f, ln, (B, ents.length, d), ents, (none, 0, 0)⟩).toArray 53)) W → W.cell? ⟨w.heap.size, 7, none⟩ = some (.slice none 0 0) ∧ W.cell? ⟨w.heap.size + 1, 7, none⟩ = some (.slice none 0 0) := fun W h =>
    ⟨(h.cell (p := ⟨w.heap.size, 7, none⟩) (by show w.heap.size < _; omega)).trans r1, (h.cell (p := ⟨w.heap.size + 1, 7, none⟩) (by show w.heap.size + 1 < _; omega)).trans r2⟩
  have hsz : ((w.alloc (.cells (rcv ⟨k, s, ep, v, f, ln, (A, ents.length, c), ents, (none, 0, 0)⟩).toArray 53)).alloc (.cells (rcv ⟨k, s, ep, v, f, ln, (B, ents.length, d), ents, (none, 0, 0)⟩).toArray 53)).heap.size = w.heap.size + 1 + 1 := by simp
  have HH := Lib.hid (And.intro hz (And.intro hs (And.intro HR hsz)))
  clear hz hs hx hy B1 B2 r1 r2 HR hsz
  unfold rcv at HH ⊢
  go_enter Try.func46, Try.ntmps46
  go_wp2_with fail
  refine HH.out.2.1.mono ?_
  rintro e w1 ⟨rfl, hb⟩
  have hw1 := below_trans HH.out.1 hb HH.out.1.size
  obtain ⟨r1, r2⟩ := HH.out.2.2.1 w1 (by rw [HH.out.2.2.2] at hb; exact hb)
  clear hb HH
  go_wp2_with fail
  go_ret
  exact ⟨by simp, hw1⟩
end Go.Proofs.Ytdphfhenjndkkaa

set_option linter.unusedSimpArgs false
set_option linter.unusedVariables false
set_option maxRecDepth 100000
namespace Go.Proofs.Ytdphfhenjndkkaa
open Go Go.RowKit Go.Sq Go.Wd Go.Arch Go.Im

set_option maxHeartbeats 16000000 in
theorem rdlay_stop (r : RegS) (sl : SlcE) (rb : Nat) (gr : Int) (E U : Nat → Int) (x : MailV) (now : Int) (w : World) (hB : RB w rb gr E U) (h0 : 0 ≤ now) (hl : LogAt w w.heap.size sl r.log) (hx : LogAt w w.heap.size x.es x.m.ents) (hx2 : x.m.ents.length ≤ 1000) (hok : mailOk r x.m) (hst : x.m.epoch < r.prom ∨ (r.view < x.m.epoch ∧ 0 < x.m.base) ∨ (r.log.length : Int) < x.m.base) :
    Calls Try.prog 45 #[.agg (rgv r sl).toArray, .pointer (some ⟨rb, 0, none⟩), .agg (mailv x).toArray, .int .i64 now] w (RTakeP (layS r x.m) rb gr E U x.m now w) := by
  obtain ⟨k1, k2, k3, k4, k5, k6⟩ := hok
  have m64 : r.log.length ≤ 64 := ((okLog_iff _ _).1 ((mayR_iff r).1 k1).2.1).1
  have hwf : (Lit.int .i64 x.m.stream).wf = true := wf_small (by omega)
  have hI0 := RpI.new (x := x) hl
  have FC : ∀ W, RpI w W r sl x → (W.cell? ⟨w.heap.size + 1, 3, none⟩ = some (.int .i64 x.m.stream) ∧ W.cell? ⟨w.heap.size + 1, 4, none⟩ = some (.int .i64 x.m.epoch) ∧ W.cell? ⟨w.heap.size + 1, 6, none⟩ = some (.int .i64 x.m.base) ∧ W.cell? ⟨w.heap.size + 1, 7, none⟩ = some (.int .i64 x.m.len) ∧ W.cell? ⟨w.heap.size + 1, 8, none⟩ = some (.int .i64 x.m.stamp)) ∧
      W.cell? ⟨w.heap.size, 0, none⟩ = some (.int .i64 r.prom) ∧ W.cell? ⟨w.heap.size, 1, none⟩ = some (.int .i64 r.view) ∧ W.cell? ⟨w.heap.size, 2, none⟩ = some (.slice sl.1 sl.2.1 sl.2.2) := fun W h => ⟨⟨h.2.2.1.cell 3, h.2.2.1.cell 4, h.2.2.1.cell 6, h.2.2.1.cell 7, h.2.2.1.cell 8⟩, h.2.1.cell 0, h.2.1.cell 1, h.2.1.cell 2⟩
  have hsn : sl.2.1 = r.log.length := hl.1
  have HI := Lib.hid hI0
  have HB := Lib.hid hB
  have HK := Lib.hid (And.intro hwf (And.intro k1 (And.intro h0 (And.intro h0 (And.intro hx2 (And.intro k4 (And.intro hl (And.intro hx (And.intro m64 hsn)))))))))
  have hzz := hI0.1
  clear hI0 hl hB hwf k1 k2 k3 k4 k5 k6 hx hx2 m64 hzz
  obtain ⟨⟨f3, f4, f6, f7, f8⟩, g0, g1, g2⟩ := FC _ HI.out
  by_cases c1 : x.m.epoch < r.prom
  case pos =>
    have HS := Lib.hid (lay_refuse c1)
    go_enter Try.func45, Try.ntmps45
    go_wp2_with ((with_reducible refine at_list ?_); first | refine wpList_load_blk rfl 37 _ rfl _ rfl _ _ _ (HI.out.2.1) Try.underlying37 rfl rg_info ?_ | refine wpList_load_blk rfl 43 _ rfl _ rfl _ _ _ (HI.out.2.2.1) Try.underlying43 rfl mail_info ?_)
    refine (rback_any x 3 r.prom _).mono ?_
    rintro e w4 ⟨rfl, hb4⟩
    have hw4 := below_trans HI.out.1 hb4 HI.out.1.size
    have H4 := Lib.hid (And.intro (hw4.alloc hw4.size (.cells (mailv (backV x.m 3 r.prom)).toArray 43)) (mails_lit w4 (backV x.m 3 r.prom) LogAt.nil))
    clear hw4 hb4 HI f3 f4 f6 f7 f8 g0 g1 g2
    have HY := Lib.hid (show (backV x.m 3 r.prom).m = refM r x.m ∧ (backV x.m 3 r.prom).o = (0, 0, 0, 0, 0) ∧ (backV x.m 3 r.prom).an = (0, 0, 0) from ⟨rfl, rfl, rfl⟩)
    generalize backV x.m 3 r.prom = y at H4 HY ⊢
    unfold mailv at H4 ⊢
    go_wp2_with fail
    go_ret2
    rw [HS.out]
    exact RTakeP.pure rfl (Answer.mail rfl H4.out.2 (by rw [HY.out.1]) HY.out.2) HB.out H4.out.1
  have b0 : (0 : Int) ≤ (sl.2.1 : Int) := by omega
  have hcs : (r.view < x.m.epoch ∧ 0 < x.m.base) ∨ (¬ r.view < x.m.epoch ∧ (sl.2.1 : Int) < x.m.base) := by
    rw [← hsn] at hst
    omega
  clear hst
  rcases hcs with ⟨a1, a2⟩ | ⟨a1, a2⟩
  iterate 2
    focus
      have HS := Lib.hid (lay_gap c1 (by first | exact .inl ⟨a1, a2⟩ | exact .inr (by rw [← hsn]; exact a2)))
      by_cases hv : x.m.epoch = r.view
      case' pos => have hve : (x.m.epoch == r.view) = true := by simpa using hv
      case' neg => have hve : (x.m.epoch == r.view) = false := by simpa using hv
      all_goals
        have HV := Lib.hid hv
        clear hv hsn
        go_enter Try.func45, Try.ntmps45
        go_wp2_with ((with_reducible refine at_list ?_); first | refine wpList_load_blk rfl 43 _ rfl _ rfl _ _ _ (HI.out.2.2.1) Try.underlying43 rfl mail_info ?_)
        refine (rback_any x 6 x.m.epoch _).mono ?_
        rintro e w6 ⟨rfl, hb6⟩
        have h6 := HI.out.keep hb6
        have H6 := Lib.hid h6
        clear hb6 h6 HI f3 f4 f6 f7 f8 g0 g1 g2
        obtain ⟨⟨f3, f4, f6, f7, f8⟩, g0, g1, g2⟩ := FC _ H6.out
        go_wp2_with ((with_reducible refine at_list ?_); first | (with_reducible refine cut_at 51 rfl ?_) | (refine wpList_store_own rfl 43 _ _ rfl _ (mailv (backV x.m 6 x.m.epoch)) rfl rfl _ _ (Blk.new w6 43 (mailv backV0)) mail_info rfl (mail_one _) ?_; intro w7 B7 g7))
        refine Cut.go ?_
        have hb7 := below_new g7
        have h7 := H6.out.keep hb7
        have H7 := Lib.hid (And.intro h7 B7)
        have hsz := H6.out.1.size
        clear hb7 h7 B7 g7 H6 f3 f4 f6 f7 f8 g0 g1 g2
        obtain ⟨⟨f3, f4, f6, f7, f8⟩, g0, g1, g2⟩ := FC _ H7.out.1
        have c7 : w7.cell? ⟨w6.heap.size, 7, none⟩ = some (.int .i64 0) := H7.out.2.cell 7
        have z7 : w7.frozen? ⟨w6.heap.size, 7, none⟩ = false := H7.out.2.frozen 7
        generalize w6.heap.size = g at *
        go_wp2_with fail
        refine abs_code (fun W => Below w.heap.size w W ∧ Blk W g 43 (mailv (gapV r x.m))) (by first
          | exact ⟨((H7.out.1.1).trans (below_grown (only_setCell (World.grownBy.refl w7 (some g)) (p := ⟨g, 7, none⟩) (.inl rfl) _) hsz H7.out.1.1.size)), by rw [← gap_pos HV.out HK.out.2.2.2.2.2.2.2.2.2]; exact H7.out.2.set 7 _⟩
          | exact ⟨H7.out.1.1, by rw [← gap_neg HV.out]; exact H7.out.2⟩) ?_
        intro wy0 hg0
        have hg : Below w.heap.size w wy0.drew ∧ Blk wy0.drew g 43 (mailv (gapV r x.m)) := ⟨hg0.1.drew, hg0.2.drew⟩
        clear hg0
        obtain ⟨wy, hwy⟩ : ∃ wy, wy0.drew = wy := ⟨_, rfl⟩
        rw [hwy] at hg
        have hy : LogAt wy wy.heap.size (gapV r x.m).es (gapV r x.m).m.ents := LogAt.nil
        have hm := mails_lit wy (gapV r x.m) hy
        have ha := hg.1.alloc hg.1.size (.cells (mailv (gapV r x.m)).toArray 43)
        have HG := Lib.hid (And.intro hg (And.intro hm ha))
        clear hg hy hm ha H7 f3 f4 f6 f7 f8 g0 g1 g2 c7 z7 hve HV
        refine wp_region_p ([(0, true), (2, true), (1, false), (3, true)]) (fun w' => Blk w' g 43 (mailv (gapV r x.m))) (by kernel_rfl) rfl (by kernel_rfl) (by kernel_rfl) (by rw [hwy]; exact HG.out.1.2) rfl ?_
        intro KP RP TP hKP hTP hTP'
        simp only [List.append_eq, List.cons_append, List.nil_append, pick, nth]
        rw [hwy]
        clear hwy
        go_wp2_with (first
          | (apply SeqP.skip; rfl; simp only [Act.put, List.setIfInBounds_toArray, List.set_cons_zero, List.set_cons_succ])
          | (apply SeqP.pure; rfl; (intro w2 hw; have hw := hTP _ hw; exact exec_load_blk 43 _ rfl _ rfl _ _ (hw) _ Try.underlying43 rfl mail_info); simp only [Act.put, List.setIfInBounds_toArray, List.set_cons_zero, List.set_cons_succ])
          | (apply SeqP.call; rfl; rfl; (intro w2 hw; have hw := hTP _ hw; (skip); go_simp; exact ⟨rfl, rfl⟩); (intro w2 hw; have hw := hTP _ hw; (skip); (first | fail)); simp only [Act.put, List.setIfInBounds_toArray, List.set_cons_zero, List.set_cons_succ])
          | (apply SeqP.pure; rfl; (intro w2 hw; have hw := hTP _ hw; (skip); go_simp; with_reducible rfl); simp only [Act.put, List.setIfInBounds_toArray, List.set_cons_zero, List.set_cons_succ])
          | (apply SeqP.split; rfl; rfl; all_goals (intro hc; simp only [hc]; try simp only [beq_iff_eq, decide_eq_true_eq, beq_eq_false_iff_ne, decide_eq_false_iff_not, bne_iff_ne, ne_eq, Bool.not_eq_true', Bool.not_eq_false', Int.not_le, Int.not_lt, bne_eq_false_iff_eq, Bool.or_eq_true, Bool.and_eq_true, Bool.or_eq_false_iff] at hc)))
        apply SeqP.eff
        · rfl
        intro KE hKE
        have HGV := Lib.hid (show (gapV r x.m).m = gapM r x.m ∧ (gapV r x.m).o = (0, 0, 0, 0, 0) ∧ (gapV r x.m).an = (0, 0, 0) from ⟨rfl, rfl, rfl⟩)
        generalize gapV r x.m = gv at *
        unfold mailv
        go_wp2_with fail
        refine hKE _ _ (hTP' _ (HG.out.1.2.alloc _)) ?_
        clear hKE KE
        go_wp2_with (first
          | (apply SeqP.skip; rfl; simp only [Act.put, List.setIfInBounds_toArray, List.set_cons_zero, List.set_cons_succ])
          | (apply SeqP.call; rfl; rfl; (intro w2 hw; have hw := hTP _ hw; (skip); go_simp; exact ⟨rfl, rfl⟩); (intro w2 hw; have hw := hTP _ hw; (skip); (first | fail)); simp only [Act.put, List.setIfInBounds_toArray, List.set_cons_zero, List.set_cons_succ])
          | (apply SeqP.pure; rfl; (intro w2 hw; have hw := hTP _ hw; (skip); go_simp; with_reducible rfl); simp only [Act.put, List.setIfInBounds_toArray, List.set_cons_zero, List.set_cons_succ])
          | (apply SeqP.split; rfl; rfl; all_goals (intro hc; simp only [hc]; try simp only [beq_iff_eq, decide_eq_true_eq, beq_eq_false_iff_ne, decide_eq_false_iff_not, bne_iff_ne, ne_eq, Bool.not_eq_true', Bool.not_eq_false', Int.not_le, Int.not_lt, bne_eq_false_iff_eq, Bool.or_eq_true, Bool.and_eq_true, Bool.or_eq_false_iff] at hc)))
        apply SeqP.nil
        refine hKP _ _ (hTP' _ (HG.out.1.2.alloc _)) ?_
        clear hKP hTP hTP'
        go_wp2_with fail
        go_ret2
        rw [HS.out]
        exact RTakeP.pure rfl (Answer.mail rfl HG.out.2.1 (by rw [HGV.out.1]) HGV.out.2) HB.out HG.out.2.2
end Go.Proofs.Ytdphfhenjndkkaa
