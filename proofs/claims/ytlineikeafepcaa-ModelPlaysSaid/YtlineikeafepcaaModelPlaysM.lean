/-
  The walks over the document's check of an order.
  The document's model: how it lies in memory, and the walks over its Orders, log and at.
  The walk over Do of the document's model.
  The walks over State and Allows of the document's model.
  Slices of answers, read as lists.
  The walk over the statement ModelPlays.
-/
import Derived.Test.YtlineikeafepcaaOrders
import Derived.Test.YtlineikeafepcaaMidOps
import Derived.Test.YtlineikeafepcaaMdlAllows
import Derived.Test.YtlineikeafepcaaMdlSame
import Derived.Test.YtlineikeafepcaaMdlLaw3
import Derived.Test.YtlineikeafepcaaFoldRef
import Derived.Deep.LoopGhost
import Derived.Test.YtlineikeafepcaaMdlLivesW
import Derived.Test.YtlineikeafepcaaSeqT
import Derived.Test.YtlineikeafepcaaMdlOrd
set_option linter.unusedSimpArgs false
set_option linter.unusedVariables false
set_option maxRecDepth 100000
namespace Go.Proofs.Ytlineikeafepcaa
open Go Go.RowKit Go.Sq Go.Wd Go.Arch

set_option maxHeartbeats 2000000 in
theorem rmay09_any (x0 x1 x2 x3 x4 : Int) (w : World) :
    Calls Try.prog 55 #[.agg #[.int .i64 x0, .int .i64 x1, .int .i64 x2, .int .i64 x3, .int .i64 x4]] w fun e w' => e = .returned (.bool (ordOk ⟨x0, x1, x2, x3, x4⟩)) ∧ Below w.heap.size w w' := by
  go_enter Try.func55, Try.ntmps55
  go_wp2
  all_goals (go_ret; refine ⟨ret_bool ?_, by (repeat (first | with_reducible apply Below.drew | with_reducible refine Below.setCell ?_ (by first | exact Nat.le_refl _ | (simp; done) | (simp; omega) | omega) _ | with_reducible refine Below.alloc ?_ (by first | exact Nat.le_refl _ | (simp; done) | (simp; omega) | omega) _ | with_reducible exact Below.refl _ _ | with_reducible assumption))⟩)
  all_goals (try simp only [beq_iff_eq, decide_eq_true_eq, beq_eq_false_iff_ne, decide_eq_false_iff_not, bne_iff_ne, ne_eq, Bool.not_eq_true', Bool.not_eq_false', Int.not_le, Int.not_lt, not_false_eq_true, bne_eq_false_iff_eq] at *)
  all_goals (rw [Bool.eq_iff_iff]; simp [ordOk] at *; (try simp [*]); (first | done | omega))
theorem rcheck09_any (x0 x1 x2 x3 x4 : Int) (w : World) :
    Calls Try.prog 41 #[.agg #[.int .i64 x0, .int .i64 x1, .int .i64 x2, .int .i64 x3, .int .i64 x4]] w fun e w' => e = .returned (.int .i64 (errOf (ordOk ⟨x0, x1, x2, x3, x4⟩))) ∧ Below w.heap.size w w' := by
  have hw := Below.refl w.heap.size w
  go_enter Try.func41, Try.ntmps41
  go_wp2_with fail
  refine (rmay09_any _ _ _ _ _ _).mono ?_
  rintro e w1 ⟨rfl, hb⟩
  have hw1 := below_trans (hw.alloc (Nat.le_refl _) _) hb (by simp)
  clear hb
  cases hO : ordOk ⟨x0, x1, x2, x3, x4⟩ with
  | false =>
    have HN := Lib.hid hO
    go_wp2_with fail
    go_ret
    rw [HN.out]
    exact ⟨rfl, hw1⟩
  | true =>
    have HN := Lib.hid hO
    go_wp2_with fail
    go_ret
    rw [HN.out]
    exact ⟨rfl, hw1⟩
end Go.Proofs.Ytlineikeafepcaa

namespace Go.Proofs.Ytlineikeafepcaa
open Go Go.RowKit Go.Sq Go.Wd Go.Arch

theorem of_next_yes {s : Int} {l : List Ord} {j : Nat} {o : Ord} (h : l[j]? = some o) (hs : o.stream = s) : ofStream s (l.take (j + 1)) = ofStream s (l.take j) ++ [o] := by
  unfold ofStream
  rw [List.take_add_one, h, List.filter_append]
  simp [hs]
theorem of_next_no {s : Int} {l : List Ord} {j : Nat} {o : Ord} (h : l[j]? = some o) (hs : ¬ o.stream = s) : ofStream s (l.take (j + 1)) = ofStream s (l.take j) := by
  unfold ofStream
  rw [List.take_add_one, h, List.filter_append]
  simp [hs]
/-- A stream's log, of all orders. -/
def logO (s : Int) (l : List Ord) : List Ent := (ofStream s l).map entOf
theorem log_len (s : Int) (l : List Ord) : (logO s l).length = (ofStream s l).length := by simp [logO]
theorem of_len (s : Int) (l : List Ord) : (ofStream s l).length ≤ l.length := List.length_filter_le _ _
def whereR (o : Option Nat) : Int := match o with | some k => (k : Int) | none => -1

/-- The document's model at block h: one row of orders. -/
def RefAt (w : World) (B h : Nat) (v : Value) (L : List Ord) : Prop := Blk w h 29 [v] ∧ ORow w B v L
theorem RefAt.keep {w w' : World} {B h : Nat} {v : Value} {L : List Ord} (H : RefAt w B h v L) (hb : Below w.heap.size w w') : RefAt w' B h v L := ⟨H.1.keep hb, ORow.keep H.2 hb⟩

/-- One more literal entry. -/
theorem Row.snoc {W : World} {B : Nat} {v : Value} {l : List Ent} (h : Row W B v l) (e : Ent) (hn : l.length < 1000000) (hB : B ≤ W.heap.size) {H : Nat} (hH : W.heap.size = H) :
    ∃ v' w', (Builtin.append_ #[49, 49] 49 #[v, .slice (some ⟨H, 0, none⟩) 1 1]).run Try.prog (W.alloc (.cells (vals e).toArray 84)) = .ok v' w' ∧ Row w' B v' (l ++ [e]) ∧ W.grownBy w' v.ownBlock := by
  obtain ⟨v', w', hr, ho, hg, _⟩ := append_one (P := Try.prog) 49 Try.underlying49 ent_info rfl (by omega) h (vals e) rfl (fun u hu => flat_one_cell [e] u (by rw [flat_one]; exact hu)) (by simp only [maxLen]; omega) (by omega) hB hH
  refine ⟨v', w', hr, ?_, hg⟩
  unfold Row
  rw [List.length_append, flat_snoc, flat_one]
  exact ho

set_option maxHeartbeats 4000000 in
theorem rorders_any (L : List Ord) (s : Int) (h B : Nat) (v0 : Value) (w : World) (H : RefAt w B h v0 L) (hL : L.length ≤ 900000) :
    Calls Try.prog 23 #[.pointer (some ⟨h, 0, none⟩), .int .i64 s] w fun e w' => ∃ v, e = .returned v ∧ ORow w' w.heap.size v (ofStream s L) ∧ Below w.heap.size w w' := by
  have hw := Below.refl w.heap.size w
  have c0 := H.1.cell 0
  have lh := H.1.lt
  obtain ⟨A, c, rfl, k1, k2, E1⟩ := ORow.form H.2
  have HE := Lib.hid E1
  have CF : ∀ w', Below w.heap.size w w' → w'.cell? ⟨h, 0, none⟩ = some (.slice A L.length c) := fun w' hb => (hb.cell (p := ⟨h, 0, none⟩) lh).trans c0
  clear H E1 c0
  go_enter Try.func23, Try.ntmps23
  go_wp2_with fail
  go_loopg [5, 6] L.length (fun q v i wr => ∃ (j : Nat), q = L.length - j ∧ j ≤ L.length ∧ i = .int .i64 j ∧ Below w.heap.size w wr ∧ ORow wr w.heap.size v (ofStream s (L.take j)))
  case atStart => exact ⟨0, rfl, by omega, rfl, hw, ORow.nil _ _⟩
  case round =>
    clear hw
    obtain ⟨j, hk, hj, rfl, hwr, hR⟩ := hrel
    have AA : Aside (gk = L.length - j) := hk
    have c0 := CF _ hwr
    clear hk
    by_cases hlt : j < L.length
    · obtain ⟨b1, o1, x, rfl, hx, _, FA⟩ := HE.out.at_ hlt
      obtain ⟨p0, p1, p2, p3, p4⟩ := FA _ hwr
      by_cases hxs : x.stream = s
      · have hxb : (x.stream == s) = true := by simpa using hxs
        obtain ⟨v', w6, hrun, R6, g6⟩ := ORow.snoc hR x (by have := of_len s (L.take j); rw [List.length_take] at this; omega) hwr.size (H := wr.heap.size) rfl
        have hb6 := below_own hwr g6 hR hwr.size
        have HR := Lib.hid (And.intro hb6 (And.intro R6 (of_next_yes hx.out hxs)))
        clear hR hb6 R6 g6 FA hxs
        go_wp2_with (at_builtin; refine wpList_app rfl (by rfl) (by rfl) (by rfl) hrun ?_)
        go_roundg (L.length - (j + 1))
        case measure => have hkk := AA.out; omega
        case rel =>
          refine ⟨j + 1, rfl, by omega, by go_num, HR.out.1, ?_⟩
          rw [HR.out.2.2]
          exact HR.out.2.1
      · have hxb : (x.stream == s) = false := by simpa using hxs
        have HR := Lib.hid (And.intro hwr (And.intro hR (of_next_no hx.out hxs)))
        clear hR FA hxs hwr
        go_wp2_with fail
        go_roundg (L.length - (j + 1))
        case measure => have hkk := AA.out; omega
        case rel =>
          refine ⟨j + 1, rfl, by omega, by go_num, HR.out.1, ?_⟩
          rw [HR.out.2.2]
          exact HR.out.2.1
    · obtain rfl : j = L.length := by omega
      rw [List.take_length] at hR
      have HR := Lib.hid (And.intro hwr hR)
      clear hwr hR
      go_wp2_with fail
      go_ret
      exact ⟨_, rfl, HR.out.2, HR.out.1⟩

set_option maxHeartbeats 4000000 in
theorem rlog_any (L : List Ord) (s : Int) (h B : Nat) (v0 : Value) (w : World) (H : RefAt w B h v0 L) (hL : L.length ≤ 900000) :
    Calls Try.prog 44 #[.pointer (some ⟨h, 0, none⟩), .int .i64 s] w fun e w' => ∃ v, e = .returned v ∧ Row w' w.heap.size v (logO s L) ∧ Below w.heap.size w w' := by
  go_enter Try.func44, Try.ntmps44
  go_wp2_with fail
  refine (rorders_any L s h B v0 w H hL).mono ?_
  rintro e w1 ⟨v, rfl, R1, hw⟩
  obtain ⟨A, c, rfl, k1, k2, E1⟩ := R1.form
  have HE := Lib.hid (E1.more (Nat.le_refl _))
  have hl := of_len s L
  have HD := Lib.hid (show logO s L = (ofStream s L).map entOf from rfl)
  generalize ofStream s L = l at *
  clear R1 E1
  go_wp2_with fail
  obtain ⟨wo, rfl⟩ : ∃ z, z = w1 := ⟨_, rfl⟩
  have hz := hw.size
  go_loopg [5, 7] l.length (fun q v i wr => ∃ (j : Nat), q = l.length - j ∧ j ≤ l.length ∧ i = .int .i64 j ∧ Below wo.heap.size wo wr ∧ Row wr wo.heap.size v ((l.take j).map entOf))
  case atStart => exact ⟨0, rfl, by omega, rfl, Below.refl _ _, World.ownsRow_nil _ _ _ _⟩
  case round =>
    obtain ⟨j, hk, hj, rfl, hwr, hR⟩ := hrel
    have AA : Aside (gk = l.length - j) := hk
    clear hk
    by_cases hlt : j < l.length
    · obtain ⟨b1, o1, x, rfl, hx, _, FA⟩ := HE.out.at_ hlt
      obtain ⟨p0, p1, p2, p3, p4⟩ := FA _ hwr
      obtain ⟨v', w6, hrun, R6, g6⟩ := Row.snoc hR (entOf x) (by simp; omega) hwr.size (H := wr.heap.size) rfl
      have hb6 := below_own hwr g6 hR hwr.size
      have hx1 : (l.take (j + 1)).map entOf = (l.take j).map entOf ++ [entOf x] := by rw [List.take_add_one, hx.out]; simp
      have HR := Lib.hid (And.intro hb6 (And.intro R6 hx1))
      clear hR hb6 R6 g6 FA hx1
      go_wp2_with (at_builtin; refine wpList_app rfl (by rfl) (by rfl) (by rfl) hrun ?_)
      go_roundg (l.length - (j + 1))
      case measure => have hkk := AA.out; omega
      case rel =>
        refine ⟨j + 1, rfl, by omega, by go_num, HR.out.1, ?_⟩
        rw [HR.out.2.2]
        exact HR.out.2.1
    · obtain rfl : j = l.length := by omega
      rw [List.take_length] at hR
      have HR := Lib.hid (And.intro (below_trans hw hwr hz) (show Row wr w.heap.size _ (l.map entOf) from ⟨hR.1, by
        rcases hR.2 with h | ⟨g, cap, cur, e1, h1, r⟩
        · exact .inl h
        · exact .inr ⟨g, cap, cur, e1, Nat.le_trans hz h1, r⟩⟩))
      clear hwr hR
      go_wp2_with fail
      go_ret
      exact ⟨_, rfl, by rw [HD.out]; exact HR.out.2, HR.out.1⟩

set_option maxHeartbeats 4000000 in
theorem rat_any (L : List Ord) (s a : Int) (h B : Nat) (v0 : Value) (w : World) (H : RefAt w B h v0 L) (hL : L.length ≤ 900000) :
    Calls Try.prog 42 #[.pointer (some ⟨h, 0, none⟩), .int .i64 s, .int .i64 a] w fun e w' => e = .returned (.int .i64 (whereR (firstIn (logO s L) (logO s L).length a))) ∧ Below w.heap.size w w' := by
  obtain ⟨G, hG⟩ : ∃ G, logO s L = G := ⟨_, rfl⟩
  rw [hG]
  have hll := log_len s L
  have hat : ∀ (j : Nat) (x : Ord), (ofStream s L)[j]? = some x → (logO s L)[j]? = some (entOf x) := fun j x hx => by
    unfold logO
    rw [List.getElem?_map, hx]
    rfl
  rw [hG] at hll hat
  have HLL := Lib.hid (And.intro hll hat)
  clear hG hll hat
  go_enter Try.func42, Try.ntmps42
  go_wp2_with fail
  refine (rorders_any L s h B v0 w H hL).mono ?_
  rintro e w1 ⟨v, rfl, R1, hw⟩
  obtain ⟨A, c, rfl, k1, k2, E1⟩ := R1.form
  have HE := Lib.hid (E1.more (Nat.le_refl _))
  have hl := of_len s L
  generalize ofStream s L = l at *
  have HL := HLL
  clear R1 E1 HLL
  go_wp2_with fail
  go_loopg [8] l.length (fun q i wr => ∃ (j : Nat), q = l.length - j ∧ j ≤ l.length ∧ i = .int .i64 j ∧ wr = w1 ∧ firstIn G j a = none)
  case atStart => exact ⟨0, rfl, by omega, rfl, rfl, rfl⟩
  case round =>
    obtain ⟨j, hk, hj, rfl, rfl, hN⟩ := hrel
    have AA : Aside (gk = l.length - j) := hk
    have HN := Lib.hid hN
    clear hk hN
    by_cases hlt : j < l.length
    · obtain ⟨b1, o1, x, rfl, hx, _, FA⟩ := HE.out.at_ hlt
      obtain ⟨p0, p1, p2, p3, p4⟩ := FA _ (Below.refl _ _)
      have hg := HL.out.2 j x hx.out
      by_cases hxa : x.id = a
      · have hxb : (x.id == a) = true := by simpa using hxa
        have hf : firstIn G G.length a = some j := first_mono (j := j + 1) (by rw [HL.out.1]; omega) (first_yes hg HN.out hxa)
        have HF := Lib.hid hf
        clear hf hg FA hxa
        go_wp2_with fail
        go_ret
        exact ⟨by rw [HF.out]; rfl, hw⟩
      · have hxb : (x.id == a) = false := by simpa using hxa
        have HF := Lib.hid (first_no hg HN.out hxa)
        clear hg FA hxa
        go_wp2_with fail
        go_roundg (l.length - (j + 1))
        case measure => have hkk := AA.out; omega
        case rel => exact ⟨j + 1, rfl, by omega, by go_num, rfl, HF.out⟩
    · obtain rfl : j = l.length := by omega
      go_wp2_with fail
      go_ret
      exact ⟨by rw [HL.out.1, HN.out]; rfl, hw⟩
end Go.Proofs.Ytlineikeafepcaa

namespace Go.Proofs.Ytlineikeafepcaa
open Go Go.RowKit Go.Sq Go.Wd Go.Arch

/-- The document's orders make these logs. -/
def RelM (M : Logs) (L : List Ord) : Prop := (∀ i : Nat, i < 4 → logO i L = M i) ∧ ∀ o ∈ L, ordOk o = true
theorem rel_nil : RelM noLogs [] := ⟨fun _ _ => rfl, fun o h => by cases h⟩
theorem logO_snoc_yes (s : Int) (L : List Ord) {o : Ord} (h : o.stream = s) : logO s (L ++ [o]) = logO s L ++ [entOf o] := by
  unfold logO ofStream
  simp [h]
theorem logO_snoc_no (s : Int) (L : List Ord) {o : Ord} (h : ¬ o.stream = s) : logO s (L ++ [o]) = logO s L := by
  unfold logO ofStream
  simp [h]
theorem rel_add {M : Logs} {L : List Ord} (h : RelM M L) {o : Ord} (ho : ordOk o = true) {S : Nat} (hS : o.stream = (S : Int)) : RelM (upd M S (M S ++ [entOf o])) (L ++ [o]) := ⟨fun i hi => by
  by_cases he : i = S
  · subst he
    rw [upd_at, logO_snoc_yes _ _ hS, h.1 i hi]
  · rw [upd_far _ _ he, logO_snoc_no _ _ (by omega), h.1 i hi], fun x hx => by
  rcases List.mem_append.1 hx with hx | hx
  · exact h.2 x hx
  · obtain rfl : x = o := by simpa using hx
    exact ho⟩
theorem rel_orders {M : Logs} {L : List Ord} (h : RelM M L) (s : Int) : ofStream s L = ordersM M s := by
  unfold ordersM
  by_cases hs : 0 ≤ s ∧ s < 4
  · rw [if_pos hs]
    obtain ⟨S, rfl⟩ := Int.eq_ofNat_of_zero_le hs.1
    rw [show (S : Int).toNat = S from rfl, ← h.1 S (by omega)]
    unfold logO
    rw [List.map_map]
    conv => lhs; rw [← List.map_id (ofStream (S : Int) L)]
    rfl
  · rw [if_neg hs]
    unfold ofStream
    rw [List.filter_eq_nil_iff]
    intro o ho
    have := ordOk_in (h.2 o ho)
    simp
    omega

/-- Two blocks turn, at most. -/
def Kept (w w' : World) (r1 r2 : Option Nat) : Prop :=
  w'.os = w.os ∧ w'.tape = w.tape ∧ w'.output = w.output ∧ w.heap.size ≤ w'.heap.size ∧ ∀ k, k < w.heap.size → some k ≠ r1 → some k ≠ r2 → w'.heap[k]? = w.heap[k]?
theorem Kept.of {w W1 W2 W3 : World} {r1 r2 : Option Nat} {x : Nat} (h1 : w.grownBy W1 r1) (h2 : W1.grownBy W2 r2) (h3 : W2.grownBy W3 (some x)) (hx : w.heap.size ≤ x) : Kept w W3 r1 r2 := by
  have s1 := h1.size
  have s2 := h2.size
  have s3 := h3.size
  refine ⟨h3.os.trans (h2.os.trans h1.os), h3.tape.trans (h2.tape.trans h1.tape), h3.output.trans (h2.output.trans h1.output), by omega, fun k hk a b => ?_⟩
  exact (h3.block k (by omega) (by intro e; cases e; omega)).trans ((h2.block k (by omega) b).trans (h1.block k hk a))
theorem Kept.below {w w' : World} {r1 r2 : Option Nat} {B : Nat} (h : Kept w w' r1 r2) (h1 : ∀ k, r1 = some k → B ≤ k) (h2 : ∀ k, r2 = some k → B ≤ k) (hB : B ≤ w.heap.size) : Below B w w' :=
  ⟨h.1, h.2.1, h.2.2.1, h.2.2.2.1, fun k hk => h.2.2.2.2 k (by omega) (fun e => by have := h1 k e.symm; omega) (fun e => by have := h2 k e.symm; omega)⟩
theorem own_block {w w' : World} {B : Nat} {e : TypeId} {size n : Nat} {v : Value} {xs : List Value} (h : w.ownsRow B e size v n xs) (hs : w.heap.size ≤ w'.heap.size) (hb : ∀ g, v.ownBlock = some g → w'.heap[g]? = w.heap[g]?) : w'.ownsRow B e size v n xs := by
  refine ⟨h.1, ?_⟩
  rcases h.2 with h | ⟨g, cap, cur, rfl, h1, h2, r⟩
  · exact .inl h
  · exact .inr ⟨g, cap, cur, rfl, h1, (hb g rfl).trans h2, r⟩
/-- What the document's Do leaves. -/
def RDoPost (M : Logs) (L : List Ord) (o : Ord) (B h : Nat) (v : Value) (w : World) (e : Ending) (w' : World) : Prop :=
  ∃ v' L' sl, e = .returned (.tuple #[.agg (outv (doM M o).2.1 sl).toArray, .int .i64 (doM M o).2.2]) ∧ RefAt w' B h v' L' ∧ RelM (doM M o).1 L' ∧ L'.length ≤ L.length + 1 ∧ EvAt w' w.heap.size none sl (doM M o).2.1.2.2 ∧ Kept w w' v.ownBlock (some h)
/-- Ahead of the fold. -/
def RDoAt (M : Logs) (L : List Ord) (o : Ord) (B h : Nat) (v : Value) (S : Nat) (w w5 : World) (G : List Ent) (k : Nat) (v5 : Value) (L5 : List Ord) : Prop :=
  RefAt w5 B h v5 L5 ∧ RelM (doM M o).1 L5 ∧ L5.length ≤ L.length + 1 ∧ logO (S : Int) L5 = G ∧ (doM M o).2 = ((foldS G).2.getD k noOut, 0) ∧ ∃ W1, w.grownBy W1 v.ownBlock ∧ W1.grownBy w5 (some h)
theorem rcheck_o (o : Ord) (w : World) : Calls Try.prog 41 #[.agg (ordv o).toArray] w fun e w' => e = .returned (.int .i64 (errOf (ordOk o))) ∧ Below w.heap.size w w' := by
  obtain ⟨a, b, c, d, e⟩ := o
  exact rcheck09_any a b c d e w
theorem ref_own {w w' : World} {B h : Nat} {v : Value} {L : List Ord} (H : RefAt w B h v L) (hg : w.grownBy w' v.ownBlock) : Blk w' h 29 [v] :=
  H.1.grown hg (fun e => own_not H.2 e.symm (show 37 ≠ 29 by decide) _ H.1)

theorem merge0 {G : Prop} (K : Act → World → Prop) {F : Act} {w' : World} (h1 : K F w' → G) (h2 : K F w') : G := h1 h2

set_option maxHeartbeats 4000000 in
theorem rdo_any (M : Logs) (L : List Ord) (o : Ord) (h B : Nat) (v : Value) (w : World) (H : RefAt w B h v L) (HRel : RelM M L) (HF : FineM M) (hL : L.length ≤ 800000) (hBw : B ≤ w.heap.size) :
    Calls Try.prog 17 #[.pointer (some ⟨h, 0, none⟩), .agg (ordv o).toArray] w fun e w' => RDoPost M L o B h v w e w' := by
  have hz : Below w.heap.size w ((w.alloc (.cells (ordv o).toArray 37)).alloc (.cells #[.int .i64 0, .int .i64 0, .slice none 0 0] 32)) := ((Below.refl _ _).alloc (Nat.le_refl _) _).alloc (by simp) _
  have BO := (Blk.new w 37 (ordv o)).alloc (.cells #[.int .i64 0, .int .i64 0, .slice none 0 0] 32)
  have BR := Blk.new1 w (.cells (ordv o).toArray 37) 32 [.int .i64 0, .int .i64 0, .slice none 0 0]
  have hm := H.keep hz
  have hgl := H.1.lt
  have lown : ∀ k, v.ownBlock = some k → k < w.heap.size := fun k e => (H.2.lt k e).2
  have HH := Lib.hid (And.intro hz (And.intro BO (And.intro BR hm)))
  clear hz BO BR hm H
  go_enter Try.func17, Try.ntmps17
  go_wp2_with ((with_reducible refine at_list ?_); first | refine wpList_load_blk rfl 37 _ rfl _ rfl _ _ _ (HH.out.2.1) Try.underlying37 rfl order_info ?_)
  refine (rcheck_o o _).mono ?_
  rintro e w1 ⟨rfl, hb⟩
  have hw1 := below_trans HH.out.1 hb HH.out.1.size
  have B1 := HH.out.2.1.keep hb
  have R1 := HH.out.2.2.1.keep hb
  have M1 := HH.out.2.2.2.keep hb
  have hz1 := hw1.size
  have lR := R1.lt
  clear HH hb
  cases ho : ordOk o
  case false =>
    have hd : doM M o = (M, noOut, 2) := by unfold doM; rw [ho]; rfl
    rw [show errOf false = 2 from rfl]
    go_wp2_with ((with_reducible refine at_list ?_); first | (refine wpList_store_own rfl 32 _ _ rfl _ (outv noOut (none, 0, 0)) rfl rfl _ _ (R1) outcome_info rfl (outv_one _ _) ?_; intro w2 R2 g2))
    apply ret_of
    · exact results_blk_tmp rfl _ _ _ _ _ _ rfl (R2) Try.underlying32 rfl outcome_info _ rfl
    · refine ⟨rfl, ?_⟩
      unfold RDoPost
      rw [hd]
      have hk := own_beside M1.2 g2 (blk_not R1 (show 32 ≠ 37 by decide))
      exact ⟨v, L, (none, 0, 0), rfl, ⟨M1.1.grown g2 (fun e => by have := Option.some.inj e; omega), hk⟩, HRel, Nat.le_succ _, .inl ⟨rfl, rfl⟩, Kept.of (World.grownBy.refl _ _) (only_of_below hw1 _) g2 (Nat.le_succ _)⟩
  case true =>
    rw [show errOf true = 0 from rfl]
    have hr := ordOk_in ho
    obtain ⟨S, hS⟩ := Int.eq_ofNat_of_zero_le hr.2.2.1
    have hS4 : S < 4 := by omega
    have hSt : o.stream.toNat = S := by rw [hS]; rfl
    have hfS := HF S hS4
    have hrl := HRel.1 S hS4
    have x1 := B1.cell 1
    have x0 := B1.cell 0
    simp only [ordv, List.getElem?_cons_succ, List.getElem?_cons_zero] at x0 x1
    rw [hS] at x1
    have HO := Lib.hid (And.intro ho (And.intro hS (And.intro hSt hrl)))
    have HM := Lib.hid M1
    clear ho hS hSt hr M1 hrl
    go_wp2_with fail
    refine (rat_any L S o.id h B v w1 HM.out (by omega)).mono ?_
    rintro e w2 ⟨rfl, hb⟩
    rw [HO.out.2.2.2]
    have hw2 := below_trans hw1 hb hz1
    have B2 := B1.keep hb
    have R2 := R1.keep hb
    have M2 := HM.out.keep hb
    have hz2 := hw2.size
    clear hb HM B1 R1 hz1 hw1 x0 x1
    cases hf : firstIn (M S) (M S).length o.id
    case' some =>
      rename_i k
      have hk := first_lt _ _ _ _ hf
      have hd : doM M o = (M, ((foldS (M S)).2.getD k noOut), 0) := by
        unfold doM
        rw [if_pos HO.out.1, HO.out.2.2.1, hf]
      have HD := Lib.hid (show RDoAt M L o B h v S w w2 (M S) k v L by unfold RDoAt; rw [hd]; exact ⟨M2, HRel, Nat.le_succ _, HO.out.2.2.2, rfl, w, World.grownBy.refl _ _, only_of_below hw2 _⟩)
      rw [show whereR (some k) = (k : Int) from rfl]
      obtain ⟨w5, rfl⟩ : ∃ z, z = w2 := ⟨_, rfl⟩
      obtain ⟨v5, L5, hL5, HD⟩ : ∃ v5 L5, L5.length ≤ 800001 ∧ Hid (RDoAt M L o B h v S w w5 (M S) k v5 L5) := ⟨v, L, by omega, HD⟩
      have hl5 : (M S).length ≤ 64 := hfS.1
      have R5 := R2
      have B5 := B2
      have hk0 : ¬ (k : Int) < 0 := by omega
      generalize M S = G at hk hl5 HD ⊢
      have x1 := B5.cell 1
      simp only [ordv, List.getElem?_cons_succ, List.getElem?_cons_zero] at x1
      rw [HO.out.2.1] at x1
      clear hd hf hfS hw2 M2 B2 R2 hz2
      go_wp2_with fail
      clear x1 hk0
    case' none =>
      rw [show whereR none = -1 from rfl]
      have x1 := B2.cell 1
      simp only [ordv, List.getElem?_cons_succ, List.getElem?_cons_zero] at x1
      rw [HO.out.2.1] at x1
      go_wp2_with fail
      refine (rorders_any L S h B v w2 M2 (by omega)).mono ?_
      rintro e w3 ⟨vo, rfl, RO, hb⟩
      obtain ⟨Ao, co, rfl, _, _, _⟩ := ORow.form RO
      have hlo : (ofStream (S : Int) L).length = (M S).length := by rw [← log_len, HO.out.2.2.2]
      rw [hlo]
      have hw3 := below_trans hw2 hb hz2
      have B3 := B2.keep hb
      have R3 := R2.keep hb
      have M3 := M2.keep hb
      have hz3 := hw3.size
      have lR3 := R3.lt
      clear hb RO hlo hw2 hz2 B2 R2 M2 x1 lR
      by_cases h64 : 64 ≤ (M S).length
      case' pos =>
        have hd : doM M o = (M, noOut, 3) := by
          unfold doM
          rw [if_pos HO.out.1, HO.out.2.2.1, hf]
          exact if_pos h64
        have h64i : (64 : Int) ≤ ((M S).length : Int) := by omega
        go_wp2_with ((with_reducible refine at_list ?_); first | (refine wpList_store_own rfl 32 _ _ rfl _ (outv noOut (none, 0, 0)) rfl rfl _ _ (R3) outcome_info rfl (outv_one _ _) ?_; intro w4 R4 g4))
        apply ret_of
        · exact results_blk_tmp rfl _ _ _ _ _ _ rfl (R4) Try.underlying32 rfl outcome_info _ rfl
        refine ⟨rfl, ?_⟩
        unfold RDoPost
        rw [hd]
        have hk := own_beside M3.2 g4 (blk_not R3 (show 32 ≠ 37 by decide))
        exact ⟨v, L, (none, 0, 0), rfl, ⟨M3.1.grown g4 (fun e => by have := Option.some.inj e; omega), hk⟩, HRel, Nat.le_succ _, .inl ⟨rfl, rfl⟩, Kept.of (World.grownBy.refl _ _) (only_of_below hw3 _) g4 (Nat.le_succ _)⟩
      case' neg =>
        have hd : doM M o = (upd M S (M S ++ [entOf o]), (foldS (M S ++ [entOf o])).2.getD (M S).length noOut, 0) := by
          unfold doM
          rw [if_pos HO.out.1, HO.out.2.2.1, hf]
          exact if_neg h64
        have h64i : ¬ (64 : Int) ≤ ((M S).length : Int) := by omega
        go_wp2_with fail
        obtain ⟨vN, w4, hrun, R4', g4⟩ := ORow.snoc (W := w3.drew) (ORow.keep M3.2 (Below.refl _ _).drew) o (by omega) (by have := hz3; show B ≤ w3.heap.size; omega) (H := w3.heap.size) rfl
        obtain ⟨LN, hLN⟩ : ∃ z, L ++ [o] = z := ⟨_, rfl⟩
        rw [hLN] at R4'
        have HLN := Lib.hid hLN
        clear hLN
        obtain ⟨A5, c5, rfl, _, _, _⟩ := ORow.form R4'
        have M3d : RefAt w3.drew B h v L := M3.keep (Below.refl _ _).drew
        have B4h := ref_own M3d g4
        have hnb : ∀ b, w.heap.size ≤ b → some b ≠ v.ownBlock := fun b hb e => by have := lown b e.symm; omega
        have B4 := (B3.drew).grown g4 (hnb _ (Nat.le_refl _))
        have R4 := (R3.drew).grown g4 (hnb _ (Nat.le_succ _))
        have HX := Lib.hid (And.intro R4' (And.intro B4h (And.intro B4 (And.intro R4 (And.intro g4 hw3)))))
        have HN := Lib.hid (And.intro M3d B3)
        clear R4' B4h B4 R4 g4 B3 R3 M3 M3d hw3
        obtain ⟨A0, c0, hv, _, _, _⟩ := ORow.form HN.out.1.2
        subst hv
        have s0 := HN.out.1.1.cell 0
        simp only [List.getElem?_cons_zero] at s0
        have lh3 : h < w3.heap.size := by omega
        have lh4 : ¬ h = w3.heap.size := by omega
        have lh5 : w3.cell? ⟨h, 0, none⟩ = some (Value.slice A0 L.length c0) := s0
        have hn1 : ¬ w.heap.size = h := by omega
        have hn2 : ¬ h = w.heap.size := by omega
        refine wp_region_t (.quiet 0 (.quiet 1 (.quiet 2 (.quiet 3 (.quiet 5 (.two 4 6 (.one 6 (.one 7 (.quiet 8 (.quiet 9 (.one 10 .done))))) (.one 4 (.one 7 (.quiet 8 (.quiet 9 (.one 10 .done))))))))))) (fun w' => Blk w' w.heap.size 37 (ordv o)) (by kernel_rfl) (by kernel_rfl) (by kernel_rfl) (by kernel_rfl) (HN.out.2.drew) rfl ?_
        intro KP RP TP hKP hTP hTP'
        simp only [Sch.fill, nth]
        have lk : ∀ w', w4.grownBy w' (some h) → Blk w' w.heap.size 37 (ordv o) := fun w' hg => HX.out.2.2.1.grown hg (fun e => by have := Option.some.inj e; omega)
        apply merge0 KP (w' := w4.setCell ⟨h, 0, none⟩ (Value.slice A5 LN.length c5))
        · intro hfin
          go_wp2_with (first
            | (apply SeqT.skip; rfl; simp only [Act.put, List.setIfInBounds_toArray, List.set_cons_zero, List.set_cons_succ])
            | (apply SeqT.call; rfl; rfl; (intro w2 hw; have hw := hTP _ hw; ((have q1 := hw; have o0 := q1.cell 0; have o1 := q1.cell 1; have o2 := q1.cell 2; have o3 := q1.cell 3; have o4 := q1.cell 4; simp [ordv] at o0 o1 o2 o3 o4)); go_simp; exact ⟨rfl, rfl⟩); (intro w2 hw; have hw := hTP _ hw; ((have q1 := hw; have o0 := q1.cell 0; have o1 := q1.cell 1; have o2 := q1.cell 2; have o3 := q1.cell 3; have o4 := q1.cell 4; simp [ordv] at o0 o1 o2 o3 o4)); (first | fail)); simp only [Act.put, List.setIfInBounds_toArray, List.set_cons_zero, List.set_cons_succ])
            | (apply SeqT.pure; rfl; (intro w2 hw; have hw := hTP _ hw; ((have q1 := hw; have o0 := q1.cell 0; have o1 := q1.cell 1; have o2 := q1.cell 2; have o3 := q1.cell 3; have o4 := q1.cell 4; simp [ordv] at o0 o1 o2 o3 o4)); go_simp; with_reducible rfl); simp only [Act.put, List.setIfInBounds_toArray, List.set_cons_zero, List.set_cons_succ]))
          apply SeqT.two
          · apply EffT.go
            · rfl
            intro KE hKE
            go_wp2_with fail
            refine hKE _ _ (hTP' _ (HN.out.2.drew)) ?_
            clear hKE KE
            apply SeqT.one
            apply EffT.go
            · rfl
            intro KE hKE
            go_wp2_with fail
            refine hKE _ _ (hTP' _ ((HN.out.2.drew).alloc _)) ?_
            clear hKE KE
            apply SeqT.one
            apply EffT.go
            · rfl
            intro KE hKE
            refine oper_app (by rfl) (by rfl) (by rfl) hrun ?_
            refine hKE _ _ (hTP' _ HX.out.2.2.1) ?_
            clear hKE KE
            go_wp2_with (first
              | (apply SeqT.skip; rfl; simp only [Act.put, List.setIfInBounds_toArray, List.set_cons_zero, List.set_cons_succ])
              | (apply SeqT.call; rfl; rfl; (intro w2 hw; have hw := hTP _ hw; (skip); go_simp; exact ⟨rfl, rfl⟩); (intro w2 hw; have hw := hTP _ hw; (skip); (first | fail)); simp only [Act.put, List.setIfInBounds_toArray, List.set_cons_zero, List.set_cons_succ])
              | (apply SeqT.pure; rfl; (intro w2 hw; have hw := hTP _ hw; (skip); go_simp; with_reducible rfl); simp only [Act.put, List.setIfInBounds_toArray, List.set_cons_zero, List.set_cons_succ]))
            apply SeqT.one
            apply EffT.go
            · rfl
            intro KE hKE
            have s0 := HX.out.2.1.cell 0
            have f0 := HX.out.2.1.frozen 0
            simp only [List.getElem?_cons_zero] at s0
            go_wp2_with fail
            refine hKE _ _ (hTP' _ (lk _ (grown_set w4 h 0 (Value.slice A5 LN.length c5)))) ?_
            apply SeqT.done
            exact hfin
          · apply EffT.go
            · rfl
            intro KE hKE
            go_wp2_with fail
            refine hKE _ _ (hTP' _ ((HN.out.2.drew).alloc _)) ?_
            clear hKE KE
            apply SeqT.one
            apply EffT.go
            · rfl
            intro KE hKE
            go_wp2_with fail
            refine hKE _ _ (hTP' _ ((HN.out.2.drew).alloc _)) ?_
            clear hKE KE
            apply SeqT.one
            apply EffT.go
            · rfl
            intro KE hKE
            refine oper_app (by rfl) (by rfl) (by rfl) hrun ?_
            refine hKE _ _ (hTP' _ HX.out.2.2.1) ?_
            clear hKE KE
            go_wp2_with (first
              | (apply SeqT.skip; rfl; simp only [Act.put, List.setIfInBounds_toArray, List.set_cons_zero, List.set_cons_succ])
              | (apply SeqT.call; rfl; rfl; (intro w2 hw; have hw := hTP _ hw; (skip); go_simp; exact ⟨rfl, rfl⟩); (intro w2 hw; have hw := hTP _ hw; (skip); (first | fail)); simp only [Act.put, List.setIfInBounds_toArray, List.set_cons_zero, List.set_cons_succ])
              | (apply SeqT.pure; rfl; (intro w2 hw; have hw := hTP _ hw; (skip); go_simp; with_reducible rfl); simp only [Act.put, List.setIfInBounds_toArray, List.set_cons_zero, List.set_cons_succ]))
            apply SeqT.one
            apply EffT.go
            · rfl
            intro KE hKE
            have s0 := HX.out.2.1.cell 0
            have f0 := HX.out.2.1.frozen 0
            simp only [List.getElem?_cons_zero] at s0
            go_wp2_with fail
            refine hKE _ _ (hTP' _ (lk _ (grown_set w4 h 0 (Value.slice A5 LN.length c5)))) ?_
            apply SeqT.done
            exact hfin
        refine hKP _ _ (hTP' _ (lk _ (grown_set w4 h 0 (Value.slice A5 LN.length c5)))) ?_
        clear hKP hrun lk
        have y1 := HX.out.2.2.1.cell 1
        simp only [ordv, List.getElem?_cons_succ, List.getElem?_cons_zero] at y1
        rw [HO.out.2.1] at y1
        go_wp2_with fail
        clear hTP hTP' s0 y1 lh3 lh4 lh5
        obtain ⟨v5, hv5⟩ : ∃ z, Value.slice A5 LN.length c5 = z := ⟨_, rfl⟩
        rw [hv5]
        rw [hv5] at HX
        have hgs := grown_set w4 h 0 v5
        have B5h : Blk (w4.setCell ⟨h, 0, none⟩ v5) h 29 [v5] := HX.out.2.1.set 0 v5
        have R5h := own_beside HX.out.1 hgs (blk_not HX.out.2.1 (show 29 ≠ 37 by decide))
        have B5 := HX.out.2.2.1.grown hgs (fun e => by have := Option.some.inj e; omega)
        have R5 := HX.out.2.2.2.1.grown hgs (fun e => by have := Option.some.inj e; omega)
        obtain ⟨k, hkk⟩ : ∃ k, (M S).length = k := ⟨_, rfl⟩
        obtain ⟨G, hLL⟩ : ∃ G, M S ++ [entOf o] = G := ⟨_, rfl⟩
        have hGl : G.length = k + 1 := by rw [← hLL]; simp [hkk]
        have hrel : RelM (doM M o).1 (L ++ [o]) := by
          rw [hd]
          exact rel_add HRel HO.out.1 HO.out.2.1
        rw [HLN.out] at hrel
        have hlo5 : logO (S : Int) (L ++ [o]) = G := by rw [logO_snoc_yes _ _ HO.out.2.1, HO.out.2.2.2, hLL]
        rw [HLN.out] at hlo5
        have HD := Lib.hid (show RDoAt M L o B h (.slice A0 L.length c0) S w (w4.setCell ⟨h, 0, none⟩ v5) G k v5 LN by
          refine ⟨⟨B5h, R5h⟩, hrel, by rw [← HLN.out]; simp, hlo5, by rw [hd, hLL, hkk], w4, (only_of_below (HX.out.2.2.2.2.2.drew) _).trans HX.out.2.2.2.2.1, hgs⟩)
        have hl5 : G.length ≤ 64 := by omega
        have hL5 : LN.length ≤ 800001 := by rw [← HLN.out]; simp; omega
        have hk : k < G.length := by omega
        rw [hkk]
        obtain ⟨L5, rfl⟩ : ∃ z, z = LN := ⟨_, rfl⟩
        generalize (w4.setCell ⟨h, 0, none⟩ v5) = w5 at HD B5 R5 ⊢
        clear hv5 hgs B5h R5h HX HN hkk hLL hGl hrel hlo5 hd h64 h64i hf hfS lR3 hz3 hnb HLN hn1 hn2
    all_goals
      refine (rlog_any L5 S h B v5 w5 HD.out.1 (by omega)).mono ?_
      rintro e w6 ⟨v6, rfl, R6, hb⟩
      rw [HD.out.2.2.2.1] at R6
      obtain ⟨A6, c6, rfl, k1, k2, E6⟩ := R6.form
      have B6 := B5.keep hb
      have R6' := R5.keep hb
      have HB6 := Lib.hid hb
      clear R6 hb B5
      go_wp2_with fail
      refine (rof_any G _ _ w6 E6 (by omega) k1 k2).mono ?_
      rintro e w7 ⟨v, rfl, hO, hb⟩
      have R7 := R6'.keep hb
      have l7 := R7.lt
      have hfl : (foldS G).2.length = G.length := fold_len G G.length (Nat.le_refl _)
      obtain ⟨hRA, hM, hl, _, hdo, W1, hg1, hg2⟩ := HD.out
      have hs5 := hg2.size
      have hs1 := hg1.size
      have hb67 := below_trans HB6.out hb HB6.out.size
      have HQ := Lib.hid (And.intro hdo (And.intro (hRA.keep hb67) (And.intro hM (And.intro hl (And.intro hg1 (grown_below hg2 hb67))))))
      have hs6 := HB6.out.size
      have hs7 := hb.size
      obtain ⟨q, cap, oo, so, rfl, ho, hq1, hq2, hq3, hq4, hE, d0, d1, d2⟩ := hO.read (show k < (foldS G).2.length by omega)
      rw [hfl]
      have BS : Blk (w7.alloc (.cells #[.int .i64 0, .bool false, .int .i64 0, .int .i64 0] 40)) w7.heap.size 40 [.int .i64 0, .bool false, .int .i64 0, .int .i64 0] := Blk.new w7 _ _
      have hoo : (foldS G).2.getD k noOut = oo := by rw [List.getD, ho]; rfl
      have HO2 := Lib.hid (And.intro hoo hE)
      have hhl := hRA.1.lt
      clear hM hdo hRA hg1 hg2 HD hO ho hE hoo hb hb67 R5 R6' hfl E6 HB6
      go_wp2_with ((with_reducible refine at_list ?_); first | (refine wpList_store_own rfl 40 _ _ rfl _ (stv (foldS G).1) rfl rfl _ _ (BS) state_info rfl (stv_one _) ?_; intro w8 S8 g8) | (with_reducible refine cut_at 50 rfl ?_))
      refine Cut.go ?_
      have hb8 := below_new g8
      have e0 := (hb8.cell (p := ⟨q, k * 3, none⟩) hq2).trans d0
      have e1 := (hb8.cell (p := ⟨q, k * 3 + 1, none⟩) hq2).trans d1
      have e2 := (hb8.cell (p := ⟨q, k * 3 + 2, none⟩) hq2).trans d2
      have R8 := R7.keep hb8
      have HB8 := Lib.hid hb8
      clear hb8 d0 d1 d2 BS g8 S8 R7
      have hki : (k : Int) < (G.length : Int) := by omega
      go_wp2_with ((with_reducible refine at_list ?_); first | (refine wpList_store_own rfl 32 _ _ rfl _ (outv oo so) rfl rfl _ _ (R8) outcome_info rfl (outv_one _ _) ?_; intro w9 R9 g9))
      apply ret_of
      · exact results_blk_tmp rfl _ _ _ _ _ _ rfl (R9) Try.underlying32 rfl outcome_info _ rfl
      refine ⟨rfl, ?_⟩
      obtain ⟨hdo, hRA, hM, hl, hg1, hg2⟩ := HQ.out
      have hRA8 := hRA.keep HB8.out
      have hk9 := own_beside hRA8.2 g9 (blk_not R8 (show 32 ≠ 37 by decide))
      refine ⟨v5, L5, so, ?_, ⟨hRA8.1.grown g9 (fun e => by have := Option.some.inj e; omega), hk9⟩, hM, hl, ?_, Kept.of hg1 (grown_below hg2 HB8.out) g9 (Nat.le_succ _)⟩
      · rw [hdo, HO2.out.1]
        rfl
      · rw [hdo, HO2.out.1]
        have h1 := HO2.out.2.keep (only_of_below HB8.out none) (fun g e => by cases e)
        exact (h1.keep g9 (fun g e => by cases e; exact .inl (by omega))).weaken (by omega)
end Go.Proofs.Ytlineikeafepcaa

namespace Go.Proofs.Ytlineikeafepcaa
open Go Go.RowKit Go.Sq Go.Wd Go.Arch

set_option maxHeartbeats 4000000 in
theorem rstate_any (M : Logs) (L : List Ord) (s : Int) (h B : Nat) (v : Value) (w : World) (H : RefAt w B h v L) (HRel : RelM M L) (HF : FineM M) (hL : L.length ≤ 900000) :
    Calls Try.prog 20 #[.pointer (some ⟨h, 0, none⟩), .int .i64 s] w fun e w' => e = .returned (.tuple #[.agg (stv (stateM M s).1).toArray, .int .i64 (stateM M s).2]) ∧ Below w.heap.size w w' := by
  have hz : Below w.heap.size w (w.alloc (.cells #[.int .i64 0, .bool false, .int .i64 0, .int .i64 0] 40)) := (Below.refl _ _).alloc (Nat.le_refl _) _
  have BR := Blk.new w 40 [.int .i64 0, .bool false, .int .i64 0, .int .i64 0]
  have hm := H.keep hz
  have HH := Lib.hid (And.intro hz (And.intro BR hm))
  have hgl := H.1.lt
  clear hz BR hm H
  obtain ⟨hw1, R1, M1⟩ := HH.out
  clear HH
  obtain ⟨wz, hwz⟩ : ∃ z, (w.alloc (.cells #[.int .i64 0, .bool false, .int .i64 0, .int .i64 0] 40)) = z := ⟨_, rfl⟩
  by_cases hs : 0 ≤ s ∧ s < 4
  case neg =>
    have hd : stateM M s = (⟨0, false, 0, 0⟩, 2) := if_neg hs
    have HS := Lib.hid (And.intro hd hwz)
    clear hd hwz
    have hcc : s < 0 ∨ (¬ s < 0 ∧ 4 ≤ s) := by omega
    clear hs
    rcases hcc with h0 | ⟨h0, h4⟩
    all_goals
      go_enter Try.func20, Try.ntmps20
      go_wp2_with ((with_reducible refine at_list ?_); first | (refine wpList_store_own rfl 40 _ _ rfl _ (stv ⟨0, false, 0, 0⟩) rfl rfl _ _ (R1) state_info rfl (stv_one _) ?_; intro w2 R2 g2))
      apply ret_of
      · exact results_blk_tmp rfl _ _ _ _ _ _ rfl (R2) Try.underlying40 rfl state_info _ rfl
      refine ⟨rfl, ?_⟩
      rw [HS.out.1]
      exact ⟨rfl, hw1.trans (below_grown g2 (Nat.le_refl _) hw1.size)⟩
  case pos =>
    have hd : stateM M s = ((foldS (M s.toNat)).1, 0) := if_pos hs
    obtain ⟨S, rfl⟩ := Int.eq_ofNat_of_zero_le hs.1
    have hS4 : S < 4 := by omega
    have hS4i : (S : Int) < 4 := by omega
    have hS0 : ¬ (S : Int) < 0 := by omega
    have hS5 : ¬ (4 : Int) ≤ (S : Int) := by omega
    rw [show (S : Int).toNat = S from rfl] at hd
    have HD := Lib.hid hd
    have hl := (HF S hS4).1
    have hrl := HRel.1 S hS4
    have HW := Lib.hid (And.intro hrl hwz)
    clear hs hd hrl hwz
    go_enter Try.func20, Try.ntmps20
    go_wp2_with fail
    have hw1' := hw1
    have R1' := R1
    have M1' := M1
    rw [HW.out.2] at hw1 R1 M1 ⊢
    clear hw1' R1' M1'
    have hz1 := hw1.size
    refine (rlog_any L S h B v wz M1 (by omega)).mono ?_
    rintro e w2 ⟨v2, rfl, RL, hb⟩
    rw [HW.out.1] at RL
    obtain ⟨A2, c2, rfl, k1, k2, E2⟩ := RL.form
    have hw2 := below_trans hw1 hb hz1
    have R2 := R1.keep hb
    have hz2 := hw2.size
    clear hb R1 hw1 hz1 RL M1 HW
    go_wp2_with fail
    refine (rof_any (M S) _ _ w2 E2 (by omega) k1 k2).mono ?_
    rintro e w3 ⟨vo, rfl, _, hb⟩
    have hw3 := below_trans hw2 hb hz2
    have R3 := R2.keep hb
    have hz3 := hw3.size
    have l3 := R3.lt
    have BS : Blk (w3.alloc (.cells #[.int .i64 0, .bool false, .int .i64 0, .int .i64 0] 40)) w3.heap.size 40 [.int .i64 0, .bool false, .int .i64 0, .int .i64 0] := Blk.new w3 _ _
    clear hb R2 hw2 hz2 E2
    go_wp2_with ((with_reducible refine at_list ?_); first | (refine wpList_store_own rfl 40 _ _ rfl _ (stv (foldS (M S)).1) rfl rfl _ _ (BS) state_info rfl (stv_one _) ?_; intro w4 S4 g4) | (with_reducible refine cut_at 22 rfl ?_))
    refine Cut.go ?_
    have hb4 := below_new g4
    have R4 := R3.keep hb4
    have hw4 := below_trans hw3 hb4 hz3
    have hz4 := hw4.size
    clear hb4 g4 BS R3
    go_wp2_with ((with_reducible refine at_list ?_); first | refine wpList_load_blk rfl 40 _ rfl _ rfl _ _ _ (S4) Try.underlying40 rfl state_info ?_ | (refine wpList_store_own rfl 40 _ _ rfl _ (stv (foldS (M S)).1) rfl rfl _ _ (R4) state_info rfl (stv_one _) ?_; intro w5 R5 g5))
    apply ret_of
    · exact results_blk_tmp rfl _ _ _ _ _ _ rfl (R5) Try.underlying40 rfl state_info _ rfl
    refine ⟨rfl, ?_⟩
    rw [HD.out]
    exact ⟨rfl, hw4.trans (below_grown g5 (Nat.le_refl _) hz4)⟩

set_option maxHeartbeats 4000000 in
theorem rallows_any (M : Logs) (L : List Ord) (s : Int) (a : Ans) (h B : Nat) (v : Value) (w : World) (H : RefAt w B h v L) (HRel : RelM M L) (HF : FineM M) (hL : L.length ≤ 900000) :
    Calls Try.prog 25 #[.pointer (some ⟨h, 0, none⟩), .int .i64 s, .agg (ansv a).toArray] w fun e w' => e = .returned (.bool (allowsM M s a)) ∧ Below w.heap.size w w' := by
  obtain ⟨id, cd, vr⟩ := a
  unfold ansv
  dsimp only
  have hz : Below w.heap.size w (w.alloc (.cells #[.int .i64 id, .int .i64 cd, .int .i64 vr] 47)) := (Below.refl _ _).alloc (Nat.le_refl _) _
  have BA := Blk.new w 47 [.int .i64 id, .int .i64 cd, .int .i64 vr]
  have hm := H.keep hz
  have HH := Lib.hid (And.intro hz (And.intro BA hm))
  have hgl := H.1.lt
  have x0 := BA.cell 0
  have x1 := BA.cell 1
  have x2 := BA.cell 2
  simp only [List.getElem?_cons_succ, List.getElem?_cons_zero] at x0 x1 x2
  have FA : ∀ w', Below (w.alloc (.cells #[.int .i64 id, .int .i64 cd, .int .i64 vr] 47)).heap.size (w.alloc (.cells #[.int .i64 id, .int .i64 cd, .int .i64 vr] 47)) w' → w'.cell? ⟨w.heap.size, 0, none⟩ = some (.int .i64 id) ∧ w'.cell? ⟨w.heap.size, 1, none⟩ = some (.int .i64 cd) ∧ w'.cell? ⟨w.heap.size, 2, none⟩ = some (.int .i64 vr) := fun w' hw =>
    ⟨(hw.cell (p := ⟨w.heap.size, 0, none⟩) BA.lt).trans x0, (hw.cell (p := ⟨w.heap.size, 1, none⟩) BA.lt).trans x1, (hw.cell (p := ⟨w.heap.size, 2, none⟩) BA.lt).trans x2⟩
  clear hz BA hm H
  by_cases hc : cd = 4 ∨ cd = 5 ∨ cd = 6 ∨ cd = 7
  case pos =>
    have hd : allowsM M s (id, cd, vr) = decide (vr = 0) := if_pos hc
    rw [hd]
    clear hd
    have hv : decide (vr = 0) = (vr == 0) := rfl
    rw [hv]
    clear hv FA
    rcases hc with rfl | rfl | rfl | rfl
    all_goals
      go_enter Try.func25, Try.ntmps25
      go_wp2_with fail
      go_ret
      exact ⟨rfl, HH.out.1⟩
  case neg =>
    have q4 : (cd == 4) = false := by rw [beq_eq_false_iff_ne]; omega
    have q5 : (cd == 5) = false := by rw [beq_eq_false_iff_ne]; omega
    have q6 : (cd == 6) = false := by rw [beq_eq_false_iff_ne]; omega
    have q7 : (cd == 7) = false := by rw [beq_eq_false_iff_ne]; omega
    have hd : allowsM M s (id, cd, vr) = (if 0 ≤ s ∧ s < 4 then
        match firstIn (M s.toNat) (M s.toNat).length id with
        | some k => decide (((foldS (M s.toNat)).2.getD k noOut).1 = cd) && decide (((foldS (M s.toNat)).2.getD k noOut).2.1 = vr)
        | none => false
      else false) := if_neg hc
    obtain ⟨r, hr⟩ : ∃ r, allowsM M s (id, cd, vr) = r := ⟨_, rfl⟩
    rw [hr] at hd ⊢
    have HV := Lib.hid hd
    clear hd hc hr
    obtain ⟨hw1, _, M1⟩ := HH.out
    clear HH
    obtain ⟨wz, hwz⟩ : ∃ z, (w.alloc (.cells #[.int .i64 id, .int .i64 cd, .int .i64 vr] 47)) = z := ⟨_, rfl⟩
    by_cases hs : 0 ≤ s ∧ s < 4
    case neg =>
      have hv := HV.out
      rw [if_neg hs] at hv
      have HV1 := Lib.hid (And.intro hv hwz)
      clear hv HV hwz
      have hcc : s < 0 ∨ (¬ s < 0 ∧ 4 ≤ s) := by omega
      clear hs
      rcases hcc with h0 | ⟨h0, h4⟩
      all_goals
        go_enter Try.func25, Try.ntmps25
        go_wp2_with fail
        go_ret
        exact ⟨ret_bool (by rw [HV1.out.1]), hw1⟩
    case pos =>
      have hv := HV.out
      rw [if_pos hs] at hv
      obtain ⟨S, rfl⟩ := Int.eq_ofNat_of_zero_le hs.1
      have hS4 : S < 4 := by omega
      have hS4i : (S : Int) < 4 := by omega
      rw [show (S : Int).toNat = S from rfl] at hv
      have HV2 := Lib.hid hv
      clear HV hv
      have hl := (HF S hS4).1
      have hS0 : ¬ (S : Int) < 0 := by omega
      have hS5 : ¬ (4 : Int) ≤ (S : Int) := by omega
      have HW := Lib.hid (And.intro (HRel.1 S hS4) hwz)
      clear hs hwz
      go_enter Try.func25, Try.ntmps25
      go_wp2_with fail
      rw [HW.out.2] at hw1 M1 FA ⊢
      have hz1 := hw1.size
      have HE := Lib.hid M1
      clear M1
      refine (rat_any L S id h B v wz HE.out (by omega)).mono ?_
      rintro e w2 ⟨rfl, hb⟩
      rw [HW.out.1]
      have hw2 := below_trans hw1 hb hz1
      have HE2 := Lib.hid (HE.out.keep hb)
      have F2 : ∀ w', Below w2.heap.size w2 w' → w'.cell? ⟨w.heap.size, 0, none⟩ = some (.int .i64 id) ∧ w'.cell? ⟨w.heap.size, 1, none⟩ = some (.int .i64 cd) ∧ w'.cell? ⟨w.heap.size, 2, none⟩ = some (.int .i64 vr) := fun w' hw => FA w' (below_trans hb hw hb.size)
      have hz2 := hw2.size
      clear hb HE FA hw1 hz1 x0 x1 x2
      cases hf : firstIn (M S) (M S).length id
      case none =>
        rw [show whereR none = -1 from rfl]
        have hv := HV2.out
        rw [hf] at hv
        have HV3 := Lib.hid hv
        clear hv hf
        go_wp2_with fail
        go_ret
        exact ⟨ret_bool (by rw [HV3.out]), hw2⟩
      case some k =>
        have hk := first_lt _ _ _ _ hf
        rw [show whereR (some k) = (k : Int) from rfl]
        have hk0 : ¬ (k : Int) < 0 := by omega
        have hv := HV2.out
        rw [hf] at hv
        dsimp only at hv
        have HV3 := Lib.hid hv
        clear hv hf HV2
        go_wp2_with fail
        refine (rlog_any L S h B v w2 HE2.out (by omega)).mono ?_
        rintro e w2' ⟨v2, rfl, RL, hbl⟩
        rw [HW.out.1] at RL
        obtain ⟨A2, c2, rfl, k1, k2, E2⟩ := RL.form
        clear RL HW
        go_wp2_with fail
        refine (rof_any (M S) _ _ w2' E2 (by omega) k1 k2).mono ?_
        rintro e w3 ⟨v, rfl, hO, hb3⟩
        have hb := below_trans hbl hb3 hbl.size
        have hw3 := below_trans hw2 hb hz2
        clear hbl hb3 E2
        have hfl : (foldS (M S)).2.length = (M S).length := fold_len (M S) (M S).length (Nat.le_refl _)
        obtain ⟨q, cap, oo, so, rfl, ho, hq1, hq2, hq3, hq4, _, d0, d1, d2⟩ := hO.read (show k < (foldS (M S)).2.length by omega)
        rw [hfl]
        have hoo : (foldS (M S)).2.getD k noOut = oo := by rw [List.getD, ho]; rfl
        have hv := HV3.out
        rw [hoo] at hv
        have HV4 := Lib.hid hv
        clear hv HV3
        have F3 : ∀ w', Below w3.heap.size w3 w' → w'.cell? ⟨w.heap.size, 1, none⟩ = some (.int .i64 cd) ∧ w'.cell? ⟨w.heap.size, 2, none⟩ = some (.int .i64 vr) ∧ w'.cell? ⟨q, k * 3, none⟩ = some (.int .i64 oo.1) ∧ w'.cell? ⟨q, k * 3 + 1, none⟩ = some (.int .i64 oo.2.1) := fun w' hw =>
          ⟨(F2 w' (below_trans hb hw hb.size)).2.1, (F2 w' (below_trans hb hw hb.size)).2.2, (hw.cell (p := ⟨q, k * 3, none⟩) hq2).trans d0, (hw.cell (p := ⟨q, k * 3 + 1, none⟩) hq2).trans d1⟩
        have hz3 := hw3.size
        have BS : Blk (w3.alloc (.cells #[.int .i64 0, .bool false, .int .i64 0, .int .i64 0] 40)) w3.heap.size 40 [.int .i64 0, .bool false, .int .i64 0, .int .i64 0] := Blk.new w3 _ _
        have hki : (k : Int) < ((M S).length : Int) := by omega
        clear hb HE2 F2 hw2 hz2 hO hfl ho hoo d0 d1 d2
        go_wp2_with ((with_reducible refine at_list ?_); first | (refine wpList_store_own rfl 40 _ _ rfl _ (stv (foldS (M S)).1) rfl rfl _ _ (BS) state_info rfl (stv_one _) ?_; intro w4 S4 g4))
        have hb4 := below_new g4
        have hw4 := below_trans hw3 hb4 hz3
        have F4 : ∀ w', Below w4.heap.size w4 w' → w'.cell? ⟨w.heap.size, 1, none⟩ = some (.int .i64 cd) ∧ w'.cell? ⟨w.heap.size, 2, none⟩ = some (.int .i64 vr) ∧ w'.cell? ⟨q, k * 3, none⟩ = some (.int .i64 oo.1) ∧ w'.cell? ⟨q, k * 3 + 1, none⟩ = some (.int .i64 oo.2.1) := fun w' hw => F3 w' (below_trans hb4 hw hb4.size)
        clear hb4 g4 S4 BS F3 hw3 hz3
        obtain ⟨oc, ov, oe⟩ := oo
        dsimp only at F4 HV4
        refine wp_region_p ([(0, true), (1, true), (2, true), (3, true), (4, true), (5, true), (6, true), (7, true), (8, true), (9, true), (10, true), (11, true), (12, true), (13, true), (14, true), (15, true), (16, true), (17, true), (18, true)]) (fun w' => Below w4.heap.size w4 w') (by kernel_rfl) rfl (by kernel_rfl) (by kernel_rfl) ((Below.refl _ _).drew) rfl ?_
        intro KP RP TP hKP hTP hTP'
        simp only [pick, nth]
        have hcc : (oc = cd ∧ ov = vr) ∨ (oc = cd ∧ ¬ ov = vr) ∨ (¬ oc = cd ∧ True) := by
          by_cases e1 : oc = cd
          · by_cases e2 : ov = vr
            · exact .inl ⟨e1, e2⟩
            · exact .inr (.inl ⟨e1, e2⟩)
          · exact .inr (.inr ⟨e1, trivial⟩)
        rcases hcc with ⟨e1, e2⟩ | ⟨e1, e2⟩ | ⟨e1, e2⟩
        case' inl =>
          have b1 : (oc == cd) = true := by simpa using e1
          have b2 : (ov == vr) = true := by simpa using e2
          have hr2 := Lib.hid (And.intro (decide_eq_true e1) (decide_eq_true e2))
        case' inr.inl =>
          have b1 : (oc == cd) = true := by simpa using e1
          have b2 : (ov == vr) = false := by simpa using e2
          have hr2 := Lib.hid (And.intro (decide_eq_true e1) (decide_eq_false e2))
        case' inr.inr =>
          have b1 : (oc == cd) = false := by simpa using e1
          have hr2 := Lib.hid (And.intro (decide_eq_false e1) e2)
        all_goals
          clear e1 e2
          go_wp2_with (first
            | (apply SeqP.skip; rfl; simp only [Act.put, List.setIfInBounds_toArray, List.set_cons_zero, List.set_cons_succ])
            | (apply SeqP.call; rfl; rfl; (intro w2 hw; have hw := hTP _ hw; ((obtain ⟨z0, z1, z2, z3⟩ := F4 _ hw)); go_simp; exact ⟨rfl, rfl⟩); (intro w2 hw; have hw := hTP _ hw; ((obtain ⟨z0, z1, z2, z3⟩ := F4 _ hw)); (first | fail)); simp only [Act.put, List.setIfInBounds_toArray, List.set_cons_zero, List.set_cons_succ])
            | (apply SeqP.pure; rfl; (intro w2 hw; have hw := hTP _ hw; ((obtain ⟨z0, z1, z2, z3⟩ := F4 _ hw)); go_simp; with_reducible rfl); simp only [Act.put, List.setIfInBounds_toArray, List.set_cons_zero, List.set_cons_succ])
            | (apply SeqP.split; rfl; rfl; all_goals (intro hc; simp only [hc]; try simp only [beq_iff_eq, decide_eq_true_eq, beq_eq_false_iff_ne, decide_eq_false_iff_not, bne_iff_ne, ne_eq, Bool.not_eq_true', Bool.not_eq_false', Int.not_le, Int.not_lt, bne_eq_false_iff_eq, Bool.or_eq_true, Bool.and_eq_true, Bool.or_eq_false_iff] at hc)))
          apply SeqP.nil
          refine hKP _ _ (hTP' _ ((Below.refl _ _).drew)) ?_
          clear hKP hTP hTP'
          go_wp2_with fail
          go_ret
          exact ⟨ret_bool (by rw [HV4.out, hr2.out.1]; first | (rw [hr2.out.2]; rfl) | rfl), hw4.drew⟩
end Go.Proofs.Ytlineikeafepcaa

namespace Go.Proofs.Ytlineikeafepcaa
open Go Go.RowKit Go.Sq Go.Wd Go.Arch

def AnsAt (w : World) (b o : Nat) (e : Ans) : Prop :=
  w.cell? ⟨b, o, none⟩ = some (.int .i64 e.1) ∧ w.cell? ⟨b, o + 1, none⟩ = some (.int .i64 e.2.1) ∧ w.cell? ⟨b, o + 2, none⟩ = some (.int .i64 e.2.2)
def Anss (w : World) (B : Nat) (A : Option Addr) (l : List Ans) : Prop :=
  0 < l.length → ∃ b off, A = some ⟨b, off, none⟩ ∧ b < B ∧ ∀ i e, l[i]? = some e → AnsAt w b (off + i * 3) e
section
variable {w w' : World} {B : Nat} {A : Option Addr} {l : List Ans}
theorem AnsAt.below {b o : Nat} {e : Ans} (h : AnsAt w b o e) (hb : Below B w w') (hB : b < B) : AnsAt w' b o e := by
  obtain ⟨h0, h1, h2⟩ := h
  exact ⟨(hb.cell (p := ⟨b, _, none⟩) hB).trans h0, (hb.cell (p := ⟨b, _, none⟩) hB).trans h1, (hb.cell (p := ⟨b, _, none⟩) hB).trans h2⟩
theorem Anss.nil : Anss w B A [] := fun h => absurd h (by simp)
theorem Anss.at_ (h : Anss w B A l) {k : Nat} (hk : k < l.length) : ∃ b off e, A = some ⟨b, off, none⟩ ∧ Hid (l[k]? = some e) ∧ b < B ∧ ∀ w', Below B w w' → AnsAt w' b (off + k * 3) e := by
  obtain ⟨b, off, ha, hb, hc⟩ := h (by omega)
  exact ⟨b, off, _, ha, Lib.hid (List.getElem?_eq_getElem hk), hb, fun w' hb' => (hc k _ (List.getElem?_eq_getElem hk)).below hb' hb⟩
end
end Go.Proofs.Ytlineikeafepcaa

namespace Go.Proofs.Ytlineikeafepcaa
open Go Go.RowKit Go.Sq Go.Wd Go.Arch

theorem neq_st (w : World) (s : St) : (binOp .neq 40 (.agg (stv s).toArray) (.agg (stv s).toArray)).run Try.prog w = .ok (.bool false) w := by
  have g0 := Try.underlying40
  simp [stv, go_sem]
theorem Kept.blk {w w' : World} {r1 r2 : Option Nat} (h : Kept w w' r1 r2) {b : Nat} {T : TypeId} {cs : List Value} (hb : Blk w b T cs) (h1 : some b ≠ r1) (h2 : some b ≠ r2) : Blk w' b T cs := by
  have hl := hb.lt
  unfold Blk at *
  exact (h.2.2.2.2 b hl h1 h2).trans hb
theorem Kept.ev {w w' : World} {r1 r2 own : Option Nat} {B : Nat} {sl : Sl} {evs : List (Int × Int)} (h : Kept w w' r1 r2) (he : EvAt w B own sl evs) (h1 : ∀ k, r1 = some k → k < B) (h2 : ∀ k, r2 = some k → k < B) : EvAt w' B own sl evs := by
  rcases he with he | ⟨g, k, a, e1, e2, e3, e4, e5, e6, e7, e8, e9⟩
  · exact .inl he
  · have hb := h.2.2.2.2 g e4 (fun e => by have := h1 g e.symm; omega) (fun e => by have := h2 g e.symm; omega)
    refine .inr ⟨g, k, a, e1, e2, e3, Nat.lt_of_lt_of_le e4 h.2.2.2.1, e5, (World.cell?_of_block (a := ⟨g, 0, none⟩) hb).trans e6, (World.cell?_of_block (a := ⟨g, 1, none⟩) hb).trans e7,
      (World.frozen?_of_block (a := ⟨g, 0, none⟩) hb).trans e8, (World.frozen?_of_block (a := ⟨g, 1, none⟩) hb).trans e9⟩
/-- Both models, in memory of the call's own. -/
def PI (w0 w : World) (g : Nat) (ss : Nat → SlcE) (M : Logs) (h : Nat) (v : Value) (L : List Ord) : Prop :=
  Below w0.heap.size w0 w ∧ w0.heap.size ≤ g ∧ w0.heap.size ≤ h ∧ MdlAt w g ss M ∧ RefAt w w0.heap.size h v L
section
variable {w0 w w1 : World} {g h : Nat} {ss ss' : Nat → SlcE} {M M' : Logs} {v v' : Value} {L L' : List Ord}
theorem PI.keep (H : PI w0 w g ss M h v L) (hb : Below w.heap.size w w1) : PI w0 w1 g ss M h v L :=
  ⟨below_trans H.1 hb H.1.size, H.2.1, H.2.2.1, H.2.2.2.1.keep hb, H.2.2.2.2.keep hb⟩
theorem PI.ne (H : PI w0 w g ss M h v L) : g ≠ h := fun e => by
  have h1 := H.2.2.2.1.1
  have h2 := blk_not H.2.2.2.2.1 (show 29 ≠ 52 by decide)
  rw [e] at h1
  exact h2 _ h1
theorem PI.do_ (H : PI w0 w g ss M h v L) (hg : w.grownBy w1 (some g)) (hm : MdlAt w1 g ss' M') : PI w0 w1 g ss' M' h v L :=
  ⟨H.1.trans (below_grown hg H.2.1 H.1.size), H.2.1, H.2.2.1, hm, H.2.2.2.2.1.grown hg (fun e => H.ne (Option.some.inj e).symm),
    own_beside H.2.2.2.2.2 hg (blk_not H.2.2.2.1.1 (show 52 ≠ 37 by decide))⟩
theorem PI.own (H : PI w0 w g ss M h v L) : ∀ k, v.ownBlock = some k → w0.heap.size ≤ k ∧ k < w.heap.size := fun k e => H.2.2.2.2.2.lt k e
theorem PI.ref (H : PI w0 w g ss M h v L) (hk : Kept w w1 v.ownBlock (some h)) (hr : RefAt w1 w0.heap.size h v' L') : PI w0 w1 g ss M h v' L' := by
  have hno : ∀ b cs T, Blk w b T cs → T ≠ 37 → some b ≠ v.ownBlock := fun b cs T hb hT e => by
    have := own_not H.2.2.2.2.2 e.symm (show 37 ≠ T from fun e => hT e.symm)
    exact this _ hb
  refine ⟨H.1.trans (hk.below (fun k e => (H.own k e).1) (fun k e => by cases e; exact H.2.2.1) H.1.size), H.2.1, H.2.2.1, ⟨hk.blk H.2.2.2.1.1 (hno _ _ _ H.2.2.2.1.1 (by decide)) (fun e => H.ne (Option.some.inj e)), fun i hi => ?_⟩, hr⟩
  have hrow := H.2.2.2.1.2 i hi
  refine own_block hrow hk.2.2.2.1 (fun q hq => hk.2.2.2.2 q (hrow.lt q hq).2 (fun e => ?_) (fun e => ?_))
  · rcases H.2.2.2.2.2.2 with ⟨rfl, _⟩ | ⟨g', cap, cur, rfl, _, hh, _⟩
    · cases e
    · have e2 : q = g' := by simpa [Value.ownBlock] using e
      subst e2
      exact own_not hrow hq (show 84 ≠ 37 by decide) _ hh
  · have e2 : q = h := Option.some.inj e
    subst e2
    exact own_not hrow hq (show 84 ≠ 29 by decide) _ H.2.2.2.2.1
end

theorem do_valP {M : Logs} {o : Ord} {p : OutS} {er : Int} {M' : Logs} (hv : doM M o = (M', p, er)) (g : Nat) (ss : Nat → SlcE) (w : World) (H : MdlAt w g ss M) (HF : FineM M) :
    Calls Try.prog 16 #[.pointer (some ⟨g, 0, none⟩), .agg (ordv o).toArray] w fun e w' => ∃ ss' sl, e = .returned (.tuple #[.agg (outv p sl).toArray, .int .i64 er]) ∧ MdlAt w' g ss' M' ∧ EvAt w' w.heap.size none sl p.2.2 ∧ w.grownBy w' (some g) := by
  refine (do_any M o g ss w H HF).mono ?_
  intro e w' h
  unfold DoPost at h
  rw [hv] at h
  exact h
theorem rdo_val {M : Logs} {o : Ord} {p : OutS} {er : Int} {M' : Logs} (hv : doM M o = (M', p, er)) (L : List Ord) (h B : Nat) (v : Value) (w : World) (H : RefAt w B h v L) (HRel : RelM M L) (HF : FineM M) (hL : L.length ≤ 800000) (hBw : B ≤ w.heap.size) :
    Calls Try.prog 17 #[.pointer (some ⟨h, 0, none⟩), .agg (ordv o).toArray] w fun e w' => ∃ v' L' sl, e = .returned (.tuple #[.agg (outv p sl).toArray, .int .i64 er]) ∧ RefAt w' B h v' L' ∧ RelM M' L' ∧ L'.length ≤ L.length + 1 ∧ EvAt w' w.heap.size none sl p.2.2 ∧ Kept w w' v.ownBlock (some h) := by
  refine (rdo_any M L o h B v w H HRel HF hL hBw).mono ?_
  intro e w' h
  unfold RDoPost at h
  rw [hv] at h
  exact h
theorem rstate_val {M : Logs} {s : Int} {p : St} {er : Int} (hv : stateM M s = (p, er)) (L : List Ord) (h B : Nat) (v : Value) (w : World) (H : RefAt w B h v L) (HRel : RelM M L) (HF : FineM M) (hL : L.length ≤ 900000) :
    Calls Try.prog 20 #[.pointer (some ⟨h, 0, none⟩), .int .i64 s] w fun e w' => e = .returned (.tuple #[.agg (stv p).toArray, .int .i64 er]) ∧ Below w.heap.size w w' := by
  refine (rstate_any M L s h B v w H HRel HF hL).mono ?_
  intro e w' h
  rw [hv] at h
  exact h

theorem allows_valP {M : Logs} {s : Int} {a : Ans} {b : Bool} (hv : allowsM M s a = b) (g : Nat) (ss : Nat → SlcE) (w : World) (H : MdlAt w g ss M) (HF : FineM M) :
    Calls Try.prog 24 #[.pointer (some ⟨g, 0, none⟩), .int .i64 s, .agg (ansv a).toArray] w fun e w' => e = .returned (.bool b) ∧ Below w.heap.size w w' := by
  rw [← hv]
  exact allows_any M s a g ss w H HF
theorem rallows_val {M : Logs} {s : Int} {a : Ans} {b : Bool} (hv : allowsM M s a = b) (L : List Ord) (h B : Nat) (v : Value) (w : World) (H : RefAt w B h v L) (HRel : RelM M L) (HF : FineM M) (hL : L.length ≤ 900000) :
    Calls Try.prog 25 #[.pointer (some ⟨h, 0, none⟩), .int .i64 s, .agg (ansv a).toArray] w fun e w' => e = .returned (.bool b) ∧ Below w.heap.size w w' := by
  rw [← hv]
  exact rallows_any M L s a h B v w H HRel HF hL

set_option maxHeartbeats 4000000 in
theorem modelPlays_walk (l : List Ord) (A : Option Addr) (c : Nat) (st : Int) (an : List Ans) (Aa : Option Addr) (ca : Nat) (w : World) (hl : Ords w w.heap.size A l) (hll : l.length ≤ 9223372036854775807) (ha : Anss w w.heap.size Aa an) (hal : an.length ≤ 9223372036854775807) :
    Calls Try.prog 3 #[.slice A l.length c, .int .i64 st, .slice Aa an.length ca] w fun r w' => r = .returned (.bool true) ∧ Below w.heap.size w w' := by
  have HL := Lib.hid (And.intro hl ha)
  clear hl ha
  go_enter Try.func3, Try.ntmps3
  by_cases hout : 100 < l.length ∨ 20 < an.length
  case pos =>
    have hcc : (100 : Int) < (l.length : Int) ∨ (¬ (100 : Int) < (l.length : Int) ∧ (20 : Int) < (an.length : Int)) := by omega
    clear hout
    rcases hcc with h1 | ⟨h1, h2⟩
    all_goals
      go_wp2_with fail
      refine (lives_any _).mono ?_
      rintro r w1 ⟨rfl, hb⟩
      go_wp2_with fail
      go_ret
      exact ⟨rfl, hb⟩
  have h100 : ¬ (100 : Int) < (l.length : Int) := by omega
  have h20 : ¬ (20 : Int) < (an.length : Int) := by omega
  have hl100 : l.length ≤ 100 := by omega
  clear hout
  go_wp2_with fail
  refine (new_any _).mono ?_
  rintro r w1 ⟨rfl, rfl⟩
  go_wp2_with fail
  have HM := Lib.hid (show PI w ((w.alloc (.cells #[.bool true, .slice none 0 0, .slice none 0 0, .slice none 0 0, .slice none 0 0] 52)).alloc (.cells #[.slice none 0 0] 29)) w.heap.size noSl noLogs (w.heap.size + 1) (.slice none 0 0) [] from
    ⟨((Below.refl _ _).alloc (Nat.le_refl _) _).alloc (by simp) _, Nat.le_refl _, Nat.le_succ _, (mdl_new w).keep ((Below.refl _ _).alloc (Nat.le_refl _) _), Blk.new1 w _ _ _, World.ownsRow_nil _ _ _ _⟩)
  generalize ((w.alloc (.cells #[.bool true, .slice none 0 0, .slice none 0 0, .slice none 0 0, .slice none 0 0] 52)).alloc (.cells #[.slice none 0 0] 29)) = w1 at HM ⊢
  obtain ⟨h, hh⟩ : ∃ z, w.heap.size + 1 = z := ⟨_, rfl⟩
  rw [hh] at HM ⊢
  clear hh
  go_wp2_with fail
  go_loopg [9] l.length (fun q i wr => ∃ (j : Nat) (ss : Nat → SlcE) (v : Value) (L : List Ord), q = l.length - j ∧ j ≤ l.length ∧ i = .int .i64 j ∧ PI w wr w.heap.size ss (playM noLogs (l.take j)) h v L ∧ RelM (playM noLogs (l.take j)) L ∧ L.length ≤ j)
  case atStart => exact ⟨0, noSl, _, [], rfl, by omega, rfl, HM.out, rel_nil, Nat.le_refl _⟩
  case round =>
    clear HM
    obtain ⟨j, ss, v, L, hq, hj, rfl, hM, hR, hLj⟩ := hrel
    have AA : Aside (gk = l.length - j) := hq
    have HM := Lib.hid hM
    have HR := Lib.hid hR
    clear hq hM hR
    by_cases hlt : j < l.length
    · obtain ⟨b1, o1, x, rfl, hx, hb1, FA⟩ := HL.out.1.at_ hlt
      obtain ⟨p0, p1, p2, p3, p4⟩ := FA _ HM.out.1
      have hfine : FineM (playM noLogs (l.take j)) := fine_play fine_nil _
      have hnx := play_next (M := noLogs) hx.out
      have hfine2 : FineM (playM noLogs (l.take (j + 1))) := fine_play fine_nil _
      rw [hnx] at hfine2
      have HN := Lib.hid (And.intro hnx (And.intro hfine hfine2))
      clear hnx hfine hfine2
      generalize playM noLogs (l.take j) = M at *
      obtain ⟨⟨M', p, er⟩, hv⟩ : ∃ z, doM M x = z := ⟨_, rfl⟩
      have HV := Lib.hid hv
      rw [hv] at HN
      clear hv
      go_wp2_with fail
      refine (do_valP HV.out w.heap.size ss wr HM.out.2.2.2.1 HN.out.2.1).mono ?_
      rintro r w2 ⟨ss', sl, rfl, hm, he, hg⟩
      have HM2 := Lib.hid (HM.out.do_ hg hm)
      have HE2 := Lib.hid he
      have hz2 := hg.size
      have hz0 := HM.out.1.size
      have BX : Blk (w2.alloc (.cells #[.int .i64 0, .int .i64 0, .slice none 0 0] 32)) w2.heap.size 32 [.int .i64 0, .int .i64 0, .slice none 0 0] := Blk.new w2 _ _
      have hown := HM.out.own
      have hhb := HM.out.2.2.2.2.1.lt
      clear hm he hg HM p0 p1 p2 p3 p4
      go_wp2_with ((with_reducible refine at_list ?_); first | (refine wpList_store_own rfl 32 _ _ rfl _ (outv p sl) rfl rfl _ _ (BX) outcome_info rfl (outv_one _ _) ?_; intro w3 S3 g3) | (with_reducible refine cut_at 52 rfl ?_))
      refine Cut.go ?_
      have hb3 := below_new g3
      have HM3 := Lib.hid (HM2.out.keep hb3)
      have HE3 := Lib.hid (HE2.out.pure hb3)
      have hz3 := hb3.size
      obtain ⟨p0, p1, p2, p3, p4⟩ := FA _ HM3.out.1
      clear BX g3 hb3 HM2 HE2 FA
      go_wp2_with fail
      refine (rdo_val HV.out L h w.heap.size v w3 HM3.out.2.2.2.2 HR.out HN.out.2.1 (by omega) HM3.out.1.size).mono ?_
      rintro r w4 ⟨v', L', sl2, rfl, hr, hrel', hL', he2, hk⟩
      have HM4 := Lib.hid (HM3.out.ref hk hr)
      have HE4 := Lib.hid (hk.ev HE3.out (fun k e => (hown k e).2) (fun k e => by cases e; exact hhb))
      have S4 := hk.blk S3 (fun e => by have := (hown _ e.symm).2; omega) (fun e => by cases e; omega)
      have HE5 := Lib.hid he2
      have HR4 := Lib.hid hrel'
      have BY : Blk (w4.alloc (.cells #[.int .i64 0, .int .i64 0, .slice none 0 0] 32)) w4.heap.size 32 [.int .i64 0, .int .i64 0, .slice none 0 0] := Blk.new w4 _ _
      have hee : (er != er) = false := by simp
      clear hr hrel' he2 hk HM3 HE3 S3 HR p0 p1 p2 p3 p4
      go_wp2_with ((with_reducible refine at_list ?_); first | (refine wpList_store_own rfl 32 _ _ rfl _ (outv p sl2) rfl rfl _ _ (BY) outcome_info rfl (outv_one _ _) ?_; intro w5 S5 g5) | (with_reducible refine cut_at 58 rfl ?_))
      refine Cut.go ?_
      have hb5 := below_new g5
      have HM5 := Lib.hid (HM4.out.keep hb5)
      have HE6 := Lib.hid (And.intro (HE4.out.pure hb5) (HE5.out.pure hb5))
      have S4' := S4.keep hb5
      clear BY g5 hb5 HM4 HE4 HE5 S4
      go_wp2_with ((with_reducible refine at_list ?_); first | refine wpList_load_blk_g 32 _ rfl rfl _ rfl _ _ _ (S4') Try.underlying32 rfl outcome_info ?_ | refine wpList_load_blk_g 32 _ rfl rfl _ rfl _ _ _ (S5) Try.underlying32 rfl outcome_info ?_)
      refine (same_out p sl sl2 w5 HE6.out.1.read HE6.out.2.read).mono ?_
      rintro r w6 ⟨rfl, hb⟩
      have HM6 := Lib.hid (HM5.out.keep hb)
      clear hb HM5 HE6 S5 S4'
      go_wp2_with fail
      go_roundg (l.length - (j + 1))
      case measure => have hkk := AA.out; omega
      case rel => exact ⟨j + 1, ss', v', L', rfl, by omega, by go_num, by rw [HN.out.1]; exact HM6.out, by rw [HN.out.1]; exact HR4.out, by omega⟩
    · obtain rfl : j = l.length := by omega
      rw [List.take_length] at HM HR
      have HF := Lib.hid (fine_play (M := noLogs) fine_nil l)
      generalize playM noLogs l = M at *
      obtain ⟨w3, rfl⟩ : ∃ z, z = wr := ⟨_, rfl⟩
      clear hlt hj
      go_wp2_with fail
      go_loopg [14] 6 (fun q i wr => ∃ (K : Nat) (s : Int), q = 6 - K ∧ K ≤ 6 ∧ s = (K : Int) - 1 ∧ i = .int .i64 s ∧ PI w wr w.heap.size ss M h v L)
      case atStart => exact ⟨0, -1, rfl, by omega, rfl, rfl, HM.out⟩
      case round =>
        clear HM
        obtain ⟨K, s, hq, hK, hs, rfl, hM⟩ := hrel
        have BB : Aside (gk = 6 - K) := hq
        have CC : Aside (s = (K : Int) - 1) := hs
        have HM := Lib.hid hM
        clear hq hM hs
        by_cases hlt : K < 6
        · have hsi : s ≤ 4 := by have := CC.out; omega
          have hs0 : -1 ≤ s := by have := CC.out; omega
          obtain ⟨⟨p, er⟩, hv⟩ : ∃ z, stateM M s = z := ⟨_, rfl⟩
          have HV := Lib.hid hv
          clear hv
          have hee : (er != er) = false := by simp
          go_wp2_with fail
          refine (state_val HV.out _ ss _ HM.out.2.2.2.1 HF.out).mono ?_
          rintro r w6 ⟨rfl, hb⟩
          have HM6 := Lib.hid (HM.out.keep hb)
          have BX : Blk (w6.alloc (.cells #[.int .i64 0, .bool false, .int .i64 0, .int .i64 0] 40)) w6.heap.size 40 [.int .i64 0, .bool false, .int .i64 0, .int .i64 0] := Blk.new w6 _ _
          clear hb HM
          go_wp2_with ((with_reducible refine at_list ?_); first | (refine wpList_store_own rfl 40 _ _ rfl _ (stv p) rfl rfl _ _ (BX) state_info rfl (stv_one _) ?_; intro w7 S7 g7))
          have hb7 := below_new g7
          have HM7 := Lib.hid (HM6.out.keep hb7)
          clear BX g7 hb7 HM6
          refine (rstate_val HV.out L h _ v w7 HM7.out.2.2.2.2 HR.out HF.out (by omega)).mono ?_
          rintro r w8 ⟨rfl, hb⟩
          have HM8 := Lib.hid (HM7.out.keep hb)
          have S8 := S7.keep hb
          have BY : Blk (w8.alloc (.cells #[.int .i64 0, .bool false, .int .i64 0, .int .i64 0] 40)) w8.heap.size 40 [.int .i64 0, .bool false, .int .i64 0, .int .i64 0] := Blk.new w8 _ _
          clear hb HM7 S7
          go_wp2_with ((with_reducible refine at_list ?_); first | ((refine wpList_store_own rfl 40 _ _ rfl _ (stv p) rfl rfl _ _ (BY) state_info rfl (stv_one _) ?_; intro w9 S9 g9); have S9' := S8.keep (below_new g9)) | refine wpList_load_blk_g 40 _ rfl rfl _ rfl _ _ _ (S9') Try.underlying40 rfl state_info ?_ | refine wpList_load_blk_g 40 _ rfl rfl _ rfl _ _ _ (S9) Try.underlying40 rfl state_info ?_ | (refine wpList_agg_g rfl rfl Try.eqGuardType40 rfl rfl (neq_st _ p) ?_))
          have hb9 := below_new g9
          have HM9 := Lib.hid (HM8.out.keep hb9)
          clear BY g9 hb9 HM8 S8 S9 S9'
          refine (orders_any _ _ _ _ _ HM9.out.2.2.2.1 HF.out).mono ?_
          rintro r w10 ⟨v1, rfl, R1, hb⟩
          have HM10 := Lib.hid (HM9.out.keep hb)
          have HQ := Lib.hid R1
          clear hb HM9 R1
          go_wp2_with fail
          refine (rorders_any L s h _ v w10 HM10.out.2.2.2.2 (by omega)).mono ?_
          rintro r w11 ⟨v2, rfl, R2, hb⟩
          rw [rel_orders HR.out] at R2
          have HM11 := Lib.hid (HM10.out.keep hb)
          obtain ⟨A1, c1, rfl, _, _, O1⟩ := (ORow.keep HQ.out hb).form
          obtain ⟨A2, c2, rfl, k1, k2, O2⟩ := R2.form
          have HO := Lib.hid (And.intro O1 O2)
          clear hb HM10 R2 O1 O2 HQ
          go_wp2_with fail
          refine (sameords_any _ _ _ _ _ _ HO.out.1 HO.out.2 (by omega)).mono ?_
          rintro r w12 ⟨rfl, hb⟩
          have HM12 := Lib.hid (HM11.out.keep hb)
          clear hb HM11
          go_wp2_with fail
          go_roundg (6 - (K + 1))
          case measure => have hkk := BB.out; omega
          case rel => exact ⟨K + 1, s + 1, rfl, by omega, by have := CC.out; simp; omega, by go_num, HM12.out⟩
        · have hsi : ¬ s ≤ 4 := by have := CC.out; omega
          obtain ⟨w4, rfl⟩ : ∃ z, z = wr := ⟨_, rfl⟩
          go_wp2_with fail
          go_loopg [19] an.length (fun q i wr => ∃ (j : Nat), q = an.length - j ∧ j ≤ an.length ∧ i = .int .i64 j ∧ PI w wr w.heap.size ss M h v L)
          case atStart => exact ⟨0, rfl, by omega, rfl, HM.out⟩
          case round =>
            clear HM
            obtain ⟨j, hq, hj, rfl, hM⟩ := hrel
            have DD : Aside (gk = an.length - j) := hq
            have HM := Lib.hid hM
            clear hq hM
            by_cases hlj : j < an.length
            · obtain ⟨b1, o1, x, rfl, hx, hb1, FA⟩ := HL.out.2.at_ hlj
              clear hx
              obtain ⟨bo, hbo⟩ : ∃ z, allowsM M st x = z := ⟨_, rfl⟩
              have HB := Lib.hid hbo
              have hbb : (bo != bo) = false := by simp
              clear hbo
              go_wp2_with fail
              have HM1 := Lib.hid (HM.out.keep (Below.refl _ _).drew)
              clear HM
              refine wp_region_p ([(0, true), (1, true), (2, true), (3, true), (4, true), (5, true), (7, true), (8, true), (9, true), (10, true), (11, true), (12, true), (6, false), (13, false), (14, true)]) (fun w' => Below wr.drew.heap.size wr.drew w') (by kernel_rfl) rfl (by kernel_rfl) (by kernel_rfl) (Below.refl _ _) rfl ?_
              intro KP RP TP hKP hTP hTP'
              simp only [pick, nth]
              go_wp2_with (first
                | (apply SeqP.skip; rfl; simp only [Act.put, List.setIfInBounds_toArray, List.set_cons_zero, List.set_cons_succ])
                | (apply SeqP.call; rfl; rfl; (intro w2 hw; have hw := hTP _ hw; ((obtain ⟨p0, p1, p2⟩ := FA _ (below_trans HM1.out.1 hw HM1.out.1.size))); go_simp; exact ⟨rfl, rfl⟩); (intro w2 hw; have hw := hTP _ hw; ((obtain ⟨p0, p1, p2⟩ := FA _ (below_trans HM1.out.1 hw HM1.out.1.size))); (first | fail)); simp only [Act.put, List.setIfInBounds_toArray, List.set_cons_zero, List.set_cons_succ])
                | (apply SeqP.pure; rfl; (intro w2 hw; have hw := hTP _ hw; ((obtain ⟨p0, p1, p2⟩ := FA _ (below_trans HM1.out.1 hw HM1.out.1.size))); go_simp; with_reducible rfl); simp only [Act.put, List.setIfInBounds_toArray, List.set_cons_zero, List.set_cons_succ])
                | (apply SeqP.split; rfl; rfl; all_goals (intro hc; simp only [hc]; try simp only [beq_iff_eq, decide_eq_true_eq, beq_eq_false_iff_ne, decide_eq_false_iff_not, bne_iff_ne, ne_eq, Bool.not_eq_true', Bool.not_eq_false', Int.not_le, Int.not_lt, bne_eq_false_iff_eq, Bool.or_eq_true, Bool.and_eq_true, Bool.or_eq_false_iff] at hc)))
              apply SeqP.eff
              · rfl
              intro KE hKE
              go_wp2_with fail
              refine (allows_valP HB.out _ ss _ HM1.out.2.2.2.1 HF.out).mono ?_
              rintro r w5 ⟨rfl, hb⟩
              have HM5 := Lib.hid (HM1.out.keep hb)
              refine hKE _ _ (hTP' _ hb) ?_
              have HB5 := Lib.hid hb
              clear hKE KE hb
              apply SeqP.eff
              · rfl
              intro KE hKE
              go_wp2_with fail
              refine (rallows_val HB.out L h _ v _ HM5.out.2.2.2.2 HR.out HF.out (by omega)).mono ?_
              rintro r w6 ⟨rfl, hb⟩
              have HM6 := Lib.hid (HM5.out.keep hb)
              refine hKE _ _ (hTP' _ (below_trans HB5.out hb HB5.out.size)) ?_
              have HB6 := Lib.hid (below_trans HB5.out hb HB5.out.size)
              clear hKE KE hb HB5 HM1 HM5
              go_wp2_with (first
                | (apply SeqP.skip; rfl; simp only [Act.put, List.setIfInBounds_toArray, List.set_cons_zero, List.set_cons_succ])
                | (apply SeqP.call; rfl; rfl; (intro w2 hw; have hw := hTP _ hw; (skip); go_simp; exact ⟨rfl, rfl⟩); (intro w2 hw; have hw := hTP _ hw; (skip); (first | fail)); simp only [Act.put, List.setIfInBounds_toArray, List.set_cons_zero, List.set_cons_succ])
                | (apply SeqP.pure; rfl; (intro w2 hw; have hw := hTP _ hw; (skip); go_simp; with_reducible rfl); simp only [Act.put, List.setIfInBounds_toArray, List.set_cons_zero, List.set_cons_succ])
                | (apply SeqP.split; rfl; rfl; all_goals (intro hc; simp only [hc]; try simp only [beq_iff_eq, decide_eq_true_eq, beq_eq_false_iff_ne, decide_eq_false_iff_not, bne_iff_ne, ne_eq, Bool.not_eq_true', Bool.not_eq_false', Int.not_le, Int.not_lt, bne_eq_false_iff_eq, Bool.or_eq_true, Bool.and_eq_true, Bool.or_eq_false_iff] at hc)))
              apply SeqP.nil
              refine hKP _ _ (hTP' _ (HB6.out)) ?_
              clear hKP hTP hTP'
              clear HB6 FA
              go_wp2_with fail
              go_roundg (an.length - (j + 1))
              case measure => have hkk := DD.out; omega
              case rel => exact ⟨j + 1, rfl, by omega, by go_num, HM6.out⟩
            · obtain rfl : j = an.length := by omega
              go_wp2_with fail
              refine (lives_any _).mono ?_
              rintro r w9 ⟨rfl, hb⟩
              have hB9 := below_trans HM.out.1 hb HM.out.1.size
              go_wp2_with fail
              go_ret
              exact ⟨rfl, hB9⟩
end Go.Proofs.Ytlineikeafepcaa
