/-
  The walk over the logs of all streams, made of orders.
-/
import Derived.Test.YtifeokabecgimaaFeedRef
import Derived.Test.YtifeokabecgimaaCopy
import Derived.Test.YtifeokabecgimaaSeqZ
set_option linter.unusedSimpArgs false
set_option linter.unusedVariables false
set_option maxRecDepth 100000
namespace Go.Proofs.Ytifeokabecgimaa
open Go Go.RowKit Go.Sq Go.Wd Go.Arch

def entO (o : Ord) : Ent := (1, o.id, o.stream, o.expect, o.kind, o.arg)
def logsO (os : List Ord) : Logs4 := fun i => (os.filter fun o => decide (o.stream = (i : Int))).map entO
theorem logsO_nil (i : Nat) : logsO [] i = [] := rfl
theorem logsO_next {os : List Ord} {j : Nat} {o : Ord} (h : os[j]? = some o) (i : Nat) : logsO (os.take (j + 1)) i = if o.stream = (i : Int) then logsO (os.take j) i ++ [entO o] else logsO (os.take j) i := by
  unfold logsO
  rw [List.take_add_one, h, List.filter_append, List.map_append]
  by_cases he : o.stream = (i : Int)
  · rw [if_pos he]
    simp [he]
  · rw [if_neg he]
    simp [he]
theorem logsO_le (os : List Ord) (i : Nat) : (logsO os i).length ≤ os.length := by
  unfold logsO
  rw [List.length_map]
  exact List.length_filter_le _ _
theorem logsO_wf {os : List Ord} (h : ∀ o ∈ os, (Lit.int .i64 o.id).wf = true) (i : Nat) : ∀ e ∈ logsO os i, (Lit.int .i64 e.2.1).wf = true := fun e he => by
  unfold logsO at he
  obtain ⟨o, ho, rfl⟩ := List.mem_map.1 he
  exact h o (List.mem_filter.1 ho).1
def updV {α : Type} (f : Nat → α) (s : Nat) (x : α) : Nat → α := fun i => if i = s then x else f i
def fourV (vs : Nat → Value) : List Value := [vs 0, vs 1, vs 2, vs 3]
theorem four_at (vs : Nat → Value) {i : Nat} (h : i < 4) : (fourV vs)[i]? = some (vs i) := by
  obtain rfl | rfl | rfl | rfl : i = 0 ∨ i = 1 ∨ i = 2 ∨ i = 3 := by omega
  all_goals rfl
theorem four_set (vs : Nat → Value) {s : Nat} (h : s < 4) (x : Value) : (fourV vs).set s x = fourV (updV vs s x) := by
  obtain rfl | rfl | rfl | rfl : s = 0 ∨ s = 1 ∨ s = 2 ∨ s = 3 := by omega
  all_goals rfl
theorem four_one {vs : Nat → Value} (h : ∀ i, i < 4 → (vs i).oneCell' = true) : ∀ v ∈ fourV vs, v.oneCell' = true := by
  intro v hv
  simp only [fourV, List.mem_cons, List.not_mem_nil, or_false] at hv
  rcases hv with rfl | rfl | rfl | rfl
  · exact h 0 (by omega)
  · exact h 1 (by omega)
  · exact h 2 (by omega)
  · exact h 3 (by omega)
theorem row_snoc22 {W : World} {B : Nat} {v : Value} {l : List Ent} (h : Row W B v l) (e : Ent) (hn : l.length < 1000000) (hB : B ≤ W.heap.size) {H : Nat} (hH : W.heap.size = H) :
    ∃ v' w', (Builtin.append_ #[22, 22] 22 #[v, .slice (some ⟨H, 0, none⟩) 1 1]).run Try.prog (W.alloc (.cells (vals e).toArray 45)) = .ok v' w' ∧ Row w' B v' (l ++ [e]) ∧ W.grownBy w' v.ownBlock ∧ (v'.ownBlock = v.ownBlock ∨ v'.ownBlock = some (H + 1)) := by
  obtain ⟨v', w', hr, ho, hg, hb⟩ := append_one (P := Try.prog) 22 Try.underlying22 ent_info rfl (by omega) h (vals e) rfl (fun u hu => flat_one_cell [e] u (by rw [flat_one]; exact hu)) (by simp only [maxLen]; omega) (by omega) hB hH
  refine ⟨v', w', hr, ?_, hg, hb⟩
  unfold Row
  rw [List.length_append, flat_snoc, flat_one]
  exact ho

theorem Row_base22 {w : World} {B B' : Nat} {v : Value} {l : List Ent} (h : Row w B v l) (hB : B' ≤ B) : Row w B' v l := by
  refine ⟨h.1, ?_⟩
  rcases h.2 with h' | ⟨g, cap, cur, h1, h2, r⟩
  · exact .inl h'
  · exact .inr ⟨g, cap, cur, h1, Nat.le_trans hB h2, r⟩
/-- What a round holds on to. -/
def LgI (w0 w : World) (A : Option Addr) (n c : Nat) (vs : Nat → Value) (M : Logs4) : Prop :=
  Below w0.heap.size w0 w ∧ Blk w w0.heap.size 55 [.slice A n c] ∧ Blk w (w0.heap.size + 1) 60 (fourV fun _ => .slice none 0 0) ∧ Blk w (w0.heap.size + 2) 60 (fourV vs) ∧
  (∀ i, i < 4 → Row w (w0.heap.size + 3) (vs i) (M i)) ∧ ∀ i k, i < 4 → k < 4 → i ≠ k → ∀ g, (vs i).ownBlock = some g → (vs k).ownBlock ≠ some g
/-- One row grows. -/
theorem LgI.grow {w0 w w' : World} {A : Option Addr} {n c : Nat} {vs : Nat → Value} {M : Logs4} (h : LgI w0 w A n c vs M) {S : Nat} (hS : S < 4) {v' : Value} {l : List Ent} (hg : w.grownBy w' (vs S).ownBlock)
    (hr : Row w' (w0.heap.size + 3) v' l) (hb : v'.ownBlock = (vs S).ownBlock ∨ ∃ g, v'.ownBlock = some g ∧ w.heap.size ≤ g) : LgI w0 (w'.setCell ⟨w0.heap.size + 2, S, none⟩ v') A n c (updV vs S v') (updV M S l) := by
  obtain ⟨h0, h1, h2, h3, h4, h5⟩ := h
  have hlt := fun g => (h4 S hS).lt g
  have hne : ∀ b, b < w0.heap.size + 3 → some b ≠ (vs S).ownBlock := fun b hb e => by have := (hlt b e.symm).1; omega
  have hs : w'.grownBy (w'.setCell ⟨w0.heap.size + 2, S, none⟩ v') (some (w0.heap.size + 2)) := only_setCell (World.grownBy.refl w' _) (.inl rfl) v'
  have hB := below_own h0 hg (Row_base22 (h4 S hS) (by omega)) h0.size
  have hlow : ∀ (v : Value) (l : List Ent), Row w' (w0.heap.size + 3) v l → Row (w'.setCell ⟨w0.heap.size + 2, S, none⟩ v') (w0.heap.size + 3) v l := fun v l hr => hr.kept hs (by
    cases hv : v.ownBlock with
    | none => exact .inl rfl
    | some g => exact .inr (fun e => by have := (hr.lt g hv).1; cases e; omega))
  refine ⟨hB.setCell (by simp) v', (h1.grown hg (hne _ (by omega))).grown hs (by simp), (h2.grown hg (hne _ (by omega))).grown hs (by simp), ((h3.grown hg (hne _ (by omega))).set S v').of_eq (four_set vs hS v'), fun i hi => ?_, fun i k hi hk hik g he => ?_⟩
  · by_cases e : i = S
    · subst e
      simp only [updV, if_true]
      exact hlow _ _ hr
    · simp only [updV, e, if_false]
      refine hlow _ _ ((h4 i hi).kept hg ?_)
      cases hv : (vs i).ownBlock with
      | none => exact .inl rfl
      | some g => exact .inr (fun ee => h5 i S hi hS e g hv ee.symm)
  · by_cases e : i = S
    · subst e
      have e2 : ¬ k = i := fun e => hik e.symm
      simp only [updV, if_true, e2, if_false] at he ⊢
      rcases hb with hb | ⟨g', hb, hg'⟩
      · rw [hb] at he
        exact h5 i k hi hk hik g he
      · rw [hb] at he
        have e4 := Option.some.inj he
        intro e3
        have := ((h4 k hk).lt g e3).2
        omega
    · simp only [updV, e, if_false] at he
      by_cases e2 : k = S
      · subst e2
        simp only [updV, if_true]
        rcases hb with hb | ⟨g', hb, hg'⟩
        · rw [hb]; exact h5 i k hi hk hik g he
        · rw [hb]
          intro e3
          have e4 := Option.some.inj e3
          have := ((h4 i hi).lt g he).2
          omega
      · simp only [updV, e2, if_false]
        exact h5 i k hi hk hik g he
theorem LgI.keep {w0 w w' : World} {A : Option Addr} {n c : Nat} {vs : Nat → Value} {M : Logs4} (h : LgI w0 w A n c vs M) (hb : Below w.heap.size w w') : LgI w0 w' A n c vs M :=
  ⟨below_trans h.1 hb h.1.size, h.2.1.keep hb, h.2.2.1.keep hb, h.2.2.2.1.keep hb, fun i hi => Row.keep (h.2.2.2.2.1 i hi) hb, h.2.2.2.2.2⟩

theorem l4_one (As : Nat → Option Addr) (cs : Nat → Nat) (M : Logs4) : ∀ v ∈ l4v As cs M, v.oneCell' = true := by
  intro v hv
  simp only [l4v, lsv, List.mem_cons, List.not_mem_nil, or_false] at hv
  rcases hv with rfl | rfl | rfl | rfl <;> rfl
theorem below_grown3 {B g : Nat} {w w' : World} (hg : w.grownBy w' (some g)) (hB : B ≤ g) (hw : B ≤ w.heap.size) : Below B w w' := below_grown2 hg hB hw
/-- What Of leaves. -/
def LogsPost (os : List Ord) (w : World) (e : Ending) (w' : World) : Prop :=
  ∃ As cs, e = .returned (.agg (l4v As cs (logsO os)).toArray) ∧ Logs4At w' As cs (logsO os) ∧ Below w.heap.size w w'

set_option maxHeartbeats 8000000 in
theorem logsOf_any (os : List Ord) (A : Option Addr) (c : Nat) (w : World) (hs : Gr.Sl ordE w w.heap.size A os) (hl : os.length ≤ 90000) :
    Calls Try.prog 27 #[.agg #[.slice A os.length c]] w fun e w' => LogsPost os w e w' := by
  have hz : Below w.heap.size w (((w.alloc (.cells #[.slice A os.length c] 55)).alloc (.cells #[.slice none 0 0, .slice none 0 0, .slice none 0 0, .slice none 0 0] 60)).alloc (.cells #[.slice none 0 0, .slice none 0 0, .slice none 0 0, .slice none 0 0] 60)) := (((Below.refl _ _).alloc (Nat.le_refl _) _).alloc (by simp) _).alloc (by simp; omega) _
  have B0 := ((Blk.new w 55 [.slice A os.length c]).alloc (.cells #[.slice none 0 0, .slice none 0 0, .slice none 0 0, .slice none 0 0] 60)).alloc (.cells #[.slice none 0 0, .slice none 0 0, .slice none 0 0, .slice none 0 0] 60)
  have B1 := (Blk.new1 w (.cells #[.slice A os.length c] 55) 60 [.slice none 0 0, .slice none 0 0, .slice none 0 0, .slice none 0 0]).alloc (.cells #[.slice none 0 0, .slice none 0 0, .slice none 0 0, .slice none 0 0] 60)
  have B2 := Blk.newAt ((w.alloc (.cells #[.slice A os.length c] 55)).alloc (.cells #[.slice none 0 0, .slice none 0 0, .slice none 0 0, .slice none 0 0] 60)) 60 [.slice none 0 0, .slice none 0 0, .slice none 0 0, .slice none 0 0] (H := w.heap.size + 2) (by simp)
  have HI : Hid (LgI w (((w.alloc (.cells #[.slice A os.length c] 55)).alloc (.cells #[.slice none 0 0, .slice none 0 0, .slice none 0 0, .slice none 0 0] 60)).alloc (.cells #[.slice none 0 0, .slice none 0 0, .slice none 0 0, .slice none 0 0] 60)) A os.length c (fun _ => .slice none 0 0) (logsO [])) :=
    Lib.hid ⟨hz, B0, B1, B2, fun i _ => World.ownsRow_nil _ _ _ _, fun i k _ _ _ g e => by cases e⟩
  have HS := Lib.hid hs
  clear hz B0 B1 B2 hs
  go_enter Try.func27, Try.ntmps27
  go_wp2_with fail
  generalize (((w.alloc (.cells #[.slice A os.length c] 55)).alloc (.cells #[.slice none 0 0, .slice none 0 0, .slice none 0 0, .slice none 0 0] 60)).alloc (.cells #[.slice none 0 0, .slice none 0 0, .slice none 0 0, .slice none 0 0] 60)) = w0 at HI ⊢
  go_wp2_with fail
  go_loopg [4, 5] os.length (fun q i x wr => ∃ (j : Nat) (vs : Nat → Value), q = os.length - j ∧ j ≤ os.length ∧ i = .int .i64 j ∧ LgI w wr A os.length c vs (logsO (os.take j)))
  case atStart => exact ⟨0, _, rfl, by omega, rfl, HI.out⟩
  case round =>
    clear HI
    obtain ⟨j, vs, hq, hj, rfl, hI⟩ := hrel
    have AA : Aside (gk = os.length - j) := hq
    have HI := Lib.hid hI
    clear hq hI
    have x0 := HI.out.2.1.cell 0
    simp only [List.getElem?_cons_zero] at x0
    by_cases hlt : j < os.length
    · obtain ⟨b1, o1, o, rfl, hx, hb1, FA⟩ := HS.out.at_ hlt
      have hbelow := HI.out.1
      have p1 : wr.cell? ⟨b1, o1 + j * 5 + 1, none⟩ = some (.int .i64 o.stream) := FA wr hbelow 1 (by decide)
      by_cases h03 : 0 ≤ o.stream ∧ o.stream < 4
      case neg =>
        have hnx : logsO (os.take (j + 1)) = logsO (os.take j) ∨ True := .inr trivial
        have HN := Lib.hid (show ∀ i, i < 4 → logsO (os.take (j + 1)) i = logsO (os.take j) i from fun i hi => by
          rw [logsO_next hx.out, if_neg (by omega)])
        have hcc : (0 : Int) ≤ o.stream ∧ ¬ o.stream < 4 ∨ ¬ (0 : Int) ≤ o.stream := by omega
        have HI2 := Lib.hid (show LgI w wr (some ⟨b1, o1, none⟩) os.length c vs (logsO (os.take (j + 1))) from ⟨HI.out.1, HI.out.2.1, HI.out.2.2.1, HI.out.2.2.2.1, fun i hi => by rw [HN.out i hi]; exact HI.out.2.2.2.2.1 i hi, HI.out.2.2.2.2.2⟩)
        clear h03 hnx
        rcases hcc with ⟨h0, h4⟩ | h0
        all_goals
          go_wp2_with fail
          go_roundg (os.length - (j + 1))
          case measure => have hkk := AA.out; omega
          case rel => exact ⟨j + 1, vs, rfl, by omega, by go_num, HI2.out⟩
      case pos =>
        obtain ⟨S, hS⟩ := Int.eq_ofNat_of_zero_le h03.1
        have hS4 : S < 4 := by omega
        have hS4i : (S : Int) < 4 := by omega
        have hS0 : (0 : Int) ≤ (S : Int) := by omega
        have FO : ∀ w', Below (w.heap.size + 3) wr w' → w'.cell? ⟨b1, o1 + j * 5, none⟩ = some (.int .i64 o.id) ∧ w'.cell? ⟨b1, o1 + j * 5 + 1, none⟩ = some (.int .i64 o.stream) ∧ w'.cell? ⟨b1, o1 + j * 5 + 2, none⟩ = some (.int .i64 o.expect) ∧ w'.cell? ⟨b1, o1 + j * 5 + 3, none⟩ = some (.int .i64 o.kind) ∧ w'.cell? ⟨b1, o1 + j * 5 + 4, none⟩ = some (.int .i64 o.arg) := fun w' hw =>
          have h := hbelow.trans (hw.mono (by omega))
          ⟨FA w' h 0 (by decide), FA w' h 1 (by decide), FA w' h 2 (by decide), FA w' h 3 (by decide), FA w' h 4 (by decide)⟩
        rw [hS] at p1
        have HSS := Lib.hid hS
        clear h03 hS FA
        obtain ⟨A5, c5, hv5, k1, k2, _⟩ := (HI.out.2.2.2.2.1 S hS4).form
        have hrl := logsO_le (os.take j) S
        have hrl2 : (os.take j).length ≤ j := by simp; omega
        obtain ⟨vN, w7, hrun, hR7, hg7, hb7⟩ := row_snoc22 (W := wr.drew) (Row.keep (HI.out.2.2.2.2.1 S hS4) (Below.refl _ _).drew) (entO o) (by omega) (by have := HI.out.2.2.2.1.lt; show w.heap.size + 3 ≤ wr.heap.size; omega) (H := wr.heap.size) rfl
        obtain ⟨AN, cN, rfl, _, _, _⟩ := hR7.form
        have hIn : logsO (os.take (j + 1)) S = logsO (os.take j) S ++ [entO o] := by rw [logsO_next hx.out, if_pos HSS.out]
        have hlt7 := fun g => (HI.out.2.2.2.2.1 S hS4).lt g
        have hB7 : Below (w.heap.size + 3) wr w7 := ⟨hg7.os, hg7.tape, hg7.output, hg7.size, fun k hk => hg7.block k (by have := HI.out.2.2.2.1.lt; show k < wr.heap.size; omega) (fun e => by have := (hlt7 k e.symm).1; omega)⟩
        have hgr := (HI.out.keep (Below.refl _ _).drew).grow hS4 hg7 hR7 (by rcases hb7 with h | h; exact .inl h; exact .inr ⟨_, h, Nat.le_succ _⟩)
        have HG := Lib.hid (show LgI w (w7.setCell ⟨w.heap.size + 2, S, none⟩ (.slice AN (logsO (os.take j) S ++ [entO o]).length cN)) (some ⟨b1, o1, none⟩) os.length c (updV vs S (.slice AN (logsO (os.take j) S ++ [entO o]).length cN)) (logsO (os.take (j + 1))) from ⟨hgr.1, hgr.2.1, hgr.2.2.1, hgr.2.2.2.1, fun i hi => by
          have h := hgr.2.2.2.2.1 i hi
          by_cases e : i = S
          · subst e
            rw [hIn]
            simpa [updV] using h
          · rw [logsO_next hx.out, if_neg (by have := HSS.out; omega)]
            simpa [updV, e] using h, hgr.2.2.2.2.2⟩)
        have FT : ∀ w', Below (w.heap.size + 3) wr w' → w'.cell? ⟨w.heap.size, 0, none⟩ = some (.slice (some ⟨b1, o1, none⟩) os.length c) ∧ w'.cell? ⟨w.heap.size + 2, S, none⟩ = some (.slice A5 (logsO (os.take j) S).length c5) := fun w' hw => by
          have h1 := (hw.cell (p := ⟨w.heap.size, 0, none⟩) (by show w.heap.size < w.heap.size + 3; omega)).trans x0
          have h2 := (hw.cell (p := ⟨w.heap.size + 2, S, none⟩) (by show w.heap.size + 2 < w.heap.size + 3; omega)).trans ((HI.out.2.2.2.1.cell S).trans (four_at vs hS4))
          rw [hv5] at h2
          exact ⟨h1, h2⟩
        have FR : w7.frozen? ⟨w.heap.size + 2, S, none⟩ = false := by
          have hb := hB7.block (w.heap.size + 2) (by omega)
          rw [World.frozen?_of_block (a := ⟨w.heap.size + 2, S, none⟩) hb]
          exact HI.out.2.2.2.1.frozen S
        have HRUN := Lib.hid hrun
        rw [hv5] at HRUN
        clear hrun hgr hR7 hg7 hb7 hIn hlt7 hv5 k1 k2 hrl hrl2 hbelow
        generalize (logsO (os.take j) S ++ [entO o]).length = nN at *
        go_wp2_with fail
        clear p1 x0
        refine wp_region_z [(0, true), (1, true), (2, true), (3, true), (4, true), (5, true), (6, true), (7, true), (8, true), (9, true), (10, false), (11, false), (12, true)] 13 (fun w' => Below (w.heap.size + 3) wr w') (by kernel_rfl) (by kernel_rfl) (by kernel_rfl) ((Below.refl _ _).drew) rfl ?_
        intro KP RP TP hKP hTP hTP'
        simp only [pick, nth]
        go_wp2_with (first
          | (apply SeqP.skip; rfl; simp only [Act.put, List.setIfInBounds_toArray, List.set_cons_zero, List.set_cons_succ])
          | (apply SeqP.call; rfl; rfl; (intro w2 hw; have hw := hTP _ hw; ((obtain ⟨y0, y1, y2, y3, y4⟩ := FO _ hw; obtain ⟨t0, t1⟩ := FT _ hw)); go_simp; exact ⟨rfl, rfl⟩); (intro w2 hw; have hw := hTP _ hw; ((obtain ⟨y0, y1, y2, y3, y4⟩ := FO _ hw; obtain ⟨t0, t1⟩ := FT _ hw)); (first | fail)); simp only [Act.put, List.setIfInBounds_toArray, List.set_cons_zero, List.set_cons_succ])
          | (apply SeqP.pure; rfl; (intro w2 hw; have hw := hTP _ hw; ((obtain ⟨y0, y1, y2, y3, y4⟩ := FO _ hw; obtain ⟨t0, t1⟩ := FT _ hw)); go_simp; with_reducible rfl); simp only [Act.put, List.setIfInBounds_toArray, List.set_cons_zero, List.set_cons_succ])
          | (apply SeqP.split; rfl; rfl; all_goals (intro hc; simp only [hc]; try simp only [beq_iff_eq, decide_eq_true_eq, beq_eq_false_iff_ne, decide_eq_false_iff_not, bne_iff_ne, ne_eq, Bool.not_eq_true', Bool.not_eq_false', Int.not_le, Int.not_lt, bne_eq_false_iff_eq, Bool.or_eq_true, Bool.and_eq_true, Bool.or_eq_false_iff] at hc)))
        apply SeqP.eff
        · rfl
        intro KE hKE
        go_wp2_with fail
        have hz := HI.out.2.2.2.1.lt
        refine hKE _ _ (hTP' _ ((Below.refl _ _).drew.alloc (by show w.heap.size + 3 ≤ wr.heap.size; omega) _)) ?_
        clear hKE KE
        apply SeqP.eff
        · rfl
        intro KE hKE
        have hrun := HRUN.out
        unfold entO vals at hrun
        dsimp only at hrun
        refine oper_app (by rfl) (by rfl) (by rfl) hrun ?_
        refine hKE _ _ (hTP' _ hB7) ?_
        clear hKE KE hrun HRUN
        go_wp2_with (first
          | (apply SeqP.skip; rfl; simp only [Act.put, List.setIfInBounds_toArray, List.set_cons_zero, List.set_cons_succ])
          | (apply SeqP.call; rfl; rfl; (intro w2 hw; have hw := hTP _ hw; (skip); go_simp; exact ⟨rfl, rfl⟩); (intro w2 hw; have hw := hTP _ hw; (skip); (first | fail)); simp only [Act.put, List.setIfInBounds_toArray, List.set_cons_zero, List.set_cons_succ])
          | (apply SeqP.pure; rfl; (intro w2 hw; have hw := hTP _ hw; (skip); go_simp; with_reducible rfl); simp only [Act.put, List.setIfInBounds_toArray, List.set_cons_zero, List.set_cons_succ])
          | (apply SeqP.split; rfl; rfl; all_goals (intro hc; simp only [hc]; try simp only [beq_iff_eq, decide_eq_true_eq, beq_eq_false_iff_ne, decide_eq_false_iff_not, bne_iff_ne, ne_eq, Bool.not_eq_true', Bool.not_eq_false', Int.not_le, Int.not_lt, bne_eq_false_iff_eq, Bool.or_eq_true, Bool.and_eq_true, Bool.or_eq_false_iff] at hc)))
        apply SeqP.nil
        apply LastZ.eff
        · rfl
        have t1 : ∃ u, w7.cell? ⟨w.heap.size + 2, S, none⟩ = some u := ⟨_, (FT _ hB7).2⟩
        obtain ⟨u, t1⟩ := t1
        go_wp2_with fail
        clear hTP hTP' FT FO FR t1 hB7
        go_wp2_with fail
        go_roundg (os.length - (j + 1))
        case measure => have hkk := AA.out; omega
        case rel => exact ⟨j + 1, _, rfl, by omega, by go_num, HG.out⟩
    · obtain rfl : j = os.length := by omega
      rw [List.take_length] at HI
      have hvs : ∃ (As : Nat → Option Addr) (cs : Nat → Nat), ∀ i, i < 4 → vs i = .slice (As i) (logsO os i).length (cs i) ∧ LogAt wr wr.heap.size (As i, (logsO os i).length, cs i) (logsO os i) := by
        have h : ∀ i, ∃ p : Option Addr × Nat, i < 4 → vs i = .slice p.1 (logsO os i).length p.2 ∧ LogAt wr wr.heap.size (p.1, (logsO os i).length, p.2) (logsO os i) := fun i => by
          by_cases hi : i < 4
          · obtain ⟨A', c', h1, h2, h3, h4⟩ := (HI.out.2.2.2.2.1 i hi).form
            exact ⟨(A', c'), fun _ => ⟨h1, rfl, h2, h3, h4⟩⟩
          · exact ⟨(none, 0), fun h => absurd h hi⟩
        exact ⟨fun i => (Classical.choose (h i)).1, fun i => (Classical.choose (h i)).2, fun i hi => Classical.choose_spec (h i) hi⟩
      obtain ⟨As, cs, hv⟩ := hvs
      have h4 : fourV vs = l4v As cs (logsO os) := by
        unfold fourV l4v lsv
        rw [(hv 0 (by omega)).1, (hv 1 (by omega)).1, (hv 2 (by omega)).1, (hv 3 (by omega)).1]
      have B2 := HI.out.2.2.2.1
      rw [h4] at B2
      have BR := HI.out.2.2.1
      have HL := Lib.hid (show Logs4At wr As cs (logsO os) from fun i hi => (hv i hi).2)
      clear hv h4
      go_wp2_with ((with_reducible refine at_list ?_); first | refine wpList_load_blk rfl 60 _ rfl _ rfl _ _ _ (B2) Try.underlying60 rfl logs4_info ?_ | (refine wpList_store_own22 rfl 60 _ _ rfl _ (l4v As cs (logsO os)) rfl rfl _ _ (BR) logs4_info rfl (l4_one As cs (logsO os)) ?_; intro w8 S8 g8))
      apply ret_of
      · exact results_blk rfl _ _ _ _ _ _ rfl S8 Try.underlying60 rfl logs4_info
      · refine ⟨rfl, As, cs, rfl, fun i hi => ?_, HI.out.1.trans (below_grown2 g8 (by omega) HI.out.1.size)⟩
        have hl := HL.out i hi
        refine ⟨hl.1, hl.2.1, hl.2.2.1, fun h0 => ?_⟩
        obtain ⟨b, off, ha, hb, hE⟩ := hl.2.2.2 h0
        have hne : b ≠ w.heap.size + 1 := by
          intro e
          subst e
          obtain ⟨_, _, _, _, _, h5⟩ := hE 0 _ (List.getElem?_eq_getElem h0)
          have h6 := (HI.out.2.2.1.cell (off + 0 * 6 + 5))
          rw [h6] at h5
          have h7 := (List.getElem?_eq_some_iff.1 h5).1
          simp [fourV] at h7
          omega
        have hbl := g8.block b hb (fun e => hne (Option.some.inj e))
        have hc : ∀ j, w8.cell? ⟨b, j, none⟩ = wr.cell? ⟨b, j, none⟩ := fun j => World.cell?_of_block (a := ⟨b, j, none⟩) hbl
        refine ⟨b, off, ha, Nat.lt_of_lt_of_le hb g8.size, fun i e he => ?_⟩
        obtain ⟨k0, k1, k2, k3, k4, k5⟩ := hE i e he
        exact ⟨(hc _).trans k0, (hc _).trans k1, (hc _).trans k2, (hc _).trans k3, (hc _).trans k4, (hc _).trans k5⟩
end Go.Proofs.Ytifeokabecgimaa
