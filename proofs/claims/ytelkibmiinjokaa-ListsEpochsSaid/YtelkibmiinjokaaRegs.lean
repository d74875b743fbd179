/-
  A slice of registers; the walks over Best.
-/
import Derived.Test.YtelkibmiinjokaaBestW
set_option linter.unusedSimpArgs false
set_option linter.unusedVariables false
set_option maxRecDepth 100000
namespace Go.Proofs.Ytelkibmiinjokaa
open Go.RowKit Go.Sq Go.Wd

/-- A register: what was promised, the view, the log's slice, what is committed. -/
abbrev RegV := Int × Int × (Option Addr × Nat × Nat) × Int
def rankOf (r : RegV) : Rank := (r.2.1, (r.2.2.1.2.1 : Int))

def RegAt (w : World) (b o : Nat) (r : RegV) : Prop :=
  w.cell? ⟨b, o, none⟩ = some (.int .i64 r.1) ∧ w.cell? ⟨b, o + 1, none⟩ = some (.int .i64 r.2.1) ∧ w.cell? ⟨b, o + 2, none⟩ = some (.slice r.2.2.1.1 r.2.2.1.2.1 r.2.2.1.2.2) ∧ w.cell? ⟨b, o + 3, none⟩ = some (.int .i64 r.2.2.2)
def Regs (w : World) (B : Nat) (A : Option Addr) (l : List RegV) : Prop :=
  0 < l.length → ∃ b off, A = some ⟨b, off, none⟩ ∧ b < B ∧ ∀ i r, l[i]? = some r → RegAt w b (off + i * 4) r

section
variable {w w' : World} {B : Nat} {A : Option Addr} {l : List RegV}
theorem RegAt.below {b o : Nat} {r : RegV} (h : RegAt w b o r) (hb : Below B w w') (hB : b < B) : RegAt w' b o r := by
  obtain ⟨h0, h1, h2, h3⟩ := h
  exact ⟨(hb.cell (p := ⟨b, _, none⟩) hB).trans h0, (hb.cell (p := ⟨b, _, none⟩) hB).trans h1, (hb.cell (p := ⟨b, _, none⟩) hB).trans h2, (hb.cell (p := ⟨b, _, none⟩) hB).trans h3⟩
theorem Regs.below (h : Regs w B A l) (hb : Below B w w') : Regs w' B A l := fun hl => by
  obtain ⟨b, off, ha, hB, hc⟩ := h hl
  exact ⟨b, off, ha, hB, fun i e he => (hc i e he).below hb hB⟩
theorem Regs.at_ (h : Regs w B A l) {k : Nat} (hk : k < l.length) : ∃ b off e, A = some ⟨b, off, none⟩ ∧ Hid (l[k]? = some e) ∧ ∀ w', Below B w w' → RegAt w' b (off + k * 4) e := by
  obtain ⟨b, off, ha, hb, hc⟩ := h (by omega)
  exact ⟨b, off, _, ha, Lib.hid (List.getElem?_eq_getElem hk), fun w' hb' => (hc k _ (List.getElem?_eq_getElem hk)).below hb' hb⟩
end

def rflat (L : List Rank) : List Value := L.flatMap rv
theorem rflat_snoc (L : List Rank) (r : Rank) : rflat (L ++ [r]) = rflat L ++ rv r := by simp [rflat]
theorem rflat_get : ∀ (L : List Rank) (i : Nat) (r : Rank), L[i]? = some r → (rflat L)[i * 2]? = some (.int .i64 r.1) ∧ (rflat L)[i * 2 + 1]? = some (.int .i64 r.2)
  | [], i, r, h => by simp at h
  | a :: L, 0, r, h => by simp at h; subst h; simp [rflat, rv]
  | a :: L, i + 1, r, h => by
    have ih := rflat_get L i r (by simpa using h)
    have e : rflat (a :: L) = .int .i64 a.1 :: .int .i64 a.2 :: rflat L := by simp [rflat, rv]
    rw [e, show (i + 1) * 2 = i * 2 + 1 + 1 from by omega]
    simpa using ih
theorem ranks_of {w : World} {B g c : Nat} {L : List Rank} (h : w.ownsRow B 74 2 (.slice (some ⟨g, 0, none⟩) L.length c) L.length (rflat L)) : RanksAt w g L := by
  intro i r hi
  have hlt := (List.getElem?_eq_some_iff.1 hi).1
  obtain ⟨h1, h2⟩ := rflat_get L i r hi
  exact ⟨by rw [h.cellAt (i * 2) (by omega)]; exact h1, by rw [h.cellAt (i * 2 + 1) (by omega)]; exact h2⟩

theorem rank_info : (Try.prog.info? 74).map (fun i => (i.zero, i.size, i.bytes)) = some (some (.agg #[.int .i64 0, .int .i64 0]), 2, 16) := by kernel_rfl

theorem ranks_take (l : List RegV) (j : Nat) {r : RegV} (h : l[j]? = some r) : ((l.take (j + 1)).map rankOf) = (l.take j).map rankOf ++ [rankOf r] := by
  rw [List.take_add_one, h]; simp

set_option maxHeartbeats 1000000 in
theorem best_any (l : List RegV) (A : Option Addr) (c : Nat) (w : World) (ha : Regs w w.heap.size A l) (hl : l.length ≤ 200) :
    Calls Try.prog 21 #[.slice A l.length c] w fun e w' => e = .returned (.int .i64 (bestL (l.map rankOf))) ∧ Below w.heap.size w w' := by
  have hw : Below w.heap.size w w := Below.refl _ _
  have H := Lib.hid ha
  clear ha
  go_enter Try.func21, Try.ntmps21
  go_wp2_with fail
  go_loopg [3, 8] l.length (fun k v i wr => ∃ j : Nat, k = l.length - j ∧ j ≤ l.length ∧ i = .int .i64 j ∧ Below w.heap.size w wr ∧ wr.ownsRow w.heap.size 74 2 v j (rflat ((l.take j).map rankOf)))
  case atStart => exact ⟨0, rfl, by omega, rfl, hw, World.ownsRow_nil _ _ _ _⟩
  case round =>
    clear hw
    obtain ⟨j, hk, hj, rfl, hwr, ho⟩ := hrel
    have AA : Aside (gk = l.length - j) := hk
    clear hk
    by_cases hlt : j < l.length
    · obtain ⟨b1, o1, x, rfl, hx, FA⟩ := H.out.at_ hlt
      obtain ⟨p0, p1, p2, p3⟩ := FA _ hwr
      clear FA
      obtain ⟨x1, x2, ⟨x3, x4, x5⟩, x6⟩ := x
      simp only at p0 p1 p2 p3
      have hW : Below w.heap.size w (wr.alloc (.cells #[.int .i64 x1, .int .i64 x2, .slice x3 x4 x5, .int .i64 x6] 43)) := hwr.alloc hwr.size _
      obtain ⟨v2, w2, hrun, hO2, hg2, _⟩ := append_one (P := Try.prog) (W := wr.alloc (.cells #[.int .i64 x1, .int .i64 x2, .slice x3 x4 x5, .int .i64 x6] 43)) 72 Try.underlying72 rank_info rfl (by omega) (ho.alloc _) [.int .i64 x2, .int .i64 x4] rfl (by simp [Value.oneCell']) (by simp only [maxLen]; omega) (by omega) hW.size (by simp; rfl)
      have hb2 := below_own hW hg2 (ho.alloc _) hW.size
      clear hg2 hW
      go_wp2_with (at_builtin; refine wpList_app rfl (by rfl) (by rfl) (by rfl) hrun ?_)
      go_roundg (l.length - (j + 1))
      case measure => have hkk := AA.out; omega
      case rel => exact ⟨j + 1, rfl, by omega, by go_num, hb2, by rw [ranks_take l j hx.out, rflat_snoc]; exact hO2⟩
    · have hj' : j = l.length := by omega
      subst hj'
      rw [List.take_length] at ho
      by_cases h0 : l.length = 0
      · obtain rfl := List.eq_nil_of_length_eq_zero h0
        rcases ho.2 with ⟨rfl, _⟩ | ⟨g, cap, cur, rfl, _⟩
        all_goals
          clear ho
          go_wp2_with fail
          go_ret
          exact ⟨rfl, hwr⟩
      · have h0' : 0 < l.length := by omega
        obtain ⟨g, cap, rfl, hgB, hglt⟩ := ho.form h0'
        have hne : ((l.length : Int) == 0) = false := by rw [beq_eq_false_iff_ne]; omega
        have hlm : (l.map rankOf).length = l.length := by simp
        have hLM := Lib.hid hlm
        have hr : RanksAt wr g (l.map rankOf) := ranks_of (by rw [hlm]; exact ho)
        obtain ⟨m, hm⟩ : ∃ m, (l.map rankOf)[bestTo (l.map rankOf) (l.length - 1)]? = some m := ⟨_, List.getElem?_eq_getElem (by have := best_le (l.map rankOf) (l.length - 1); omega)⟩
        have HM := Lib.hid hm
        clear hm hlm h0 ho
        go_wp2_with fail
        have c1 := max_any (l.map rankOf) g cap wr hr hglt (by have := hLM.out; omega) (by have := hLM.out; omega)
        rw [hLM.out] at c1
        refine c1.mono ?_
        clear c1
        rintro e w1 ⟨m', hm', rfl, hb⟩
        have hw1 := below_trans hwr hb hwr.size
        rw [HM.out] at hm'
        cases hm'
        go_wp2_with fail
        have c2 := index_any (l.map rankOf) m (bestTo (l.map rankOf) (l.length - 1)) g cap w1 (hr.below hglt hb) (by have := hb.size; omega) (by have := hLM.out; omega) HM.out (fun i x hi hx => by
          have := (best_is (l.map rankOf) (l.length - 1) (by have := hLM.out; omega) m HM.out i x (by have := best_le (l.map rankOf) (l.length - 1); omega) hx).2 hi
          rintro rfl
          unfold Better at this
          omega)
        rw [hLM.out] at c2
        refine c2.mono ?_
        clear c2
        rintro e w2 ⟨rfl, hb2⟩
        have hw2 := below_trans hw1 hb2 hw1.size
        go_wp2_with fail
        go_ret
        refine ⟨ret_int ?_, hw2⟩
        unfold bestL
        rw [hLM.out, if_neg (by omega)]
end Go.Proofs.Ytelkibmiinjokaa
