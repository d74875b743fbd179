/-
  The walks over Find and the document's Find.
-/
import Derived.Test.YtifeokabecgimaaFoldSpec
import Derived.Test.YtifeokabecgimaaSeqP
import Derived.Deep.LoopGhost
set_option linter.unusedSimpArgs false
set_option linter.unusedVariables false
set_option maxRecDepth 100000
namespace Go.Proofs.Ytifeokabecgimaa
open Go.RowKit Go.Sq Go.Wd Go.Arch

theorem first_no {l : List Ent} {j : Nat} {e : Ent} {a : Int} (he : l[j]? = some e) (hf : firstIn l j a = none) (h : e.2.1 ≠ a) : firstIn l (j + 1) a = none := by
  rw [first_succ he, if_neg (by rintro ⟨_, h2⟩; exact h h2.symm), hf]
theorem first_yes {l : List Ent} {j : Nat} {e : Ent} {a : Int} (he : l[j]? = some e) (hf : firstIn l j a = none) (h : e.2.1 = a) : firstIn l (j + 1) a = some j := by
  rw [first_succ he, if_pos ⟨hf, h.symm⟩]
theorem first_mono {l : List Ent} {a : Int} {k : Nat} : ∀ {n j : Nat}, j ≤ n → firstIn l j a = some k → firstIn l n a = some k
  | 0, j, h, hf => by obtain rfl : j = 0 := by omega
                      exact hf
  | n + 1, j, h, hf => by
    by_cases hj : j = n + 1
    · subst hj; exact hf
    · have := first_mono (n := n) (by omega) hf
      unfold firstIn
      rw [this]
theorem first_take (l : List Ent) (a : Int) : ∀ (j n : Nat), j ≤ n → firstIn (l.take n) j a = firstIn l j a
  | 0, _, _ => rfl
  | j + 1, n, h => by
    have ih := first_take l a j n (by omega)
    unfold firstIn
    rw [ih, show (l.take n)[j]? = l[j]? from by rw [List.getElem?_take]; exact if_pos (by omega)]

/-- Where an ID stands, as Find says it. -/
def whereK (o : Option Nat) : Int := match o with | some k => (k : Int) | none => 0

theorem rfind_any (l : List Ent) (A : Option Addr) (c : Nat) (a : Int) (w : World) (ha : Ents w w.heap.size A l) (hl : l.length ≤ 9223372036854775807) :
    Calls Try.prog 21 #[.slice A l.length c, .int .i64 a] w fun e w' => e = .returned (.tuple #[.int .i64 (whereK (firstIn l l.length a)), .bool (firstIn l l.length a).isSome]) ∧ Below w.heap.size w w' := by
  have hw : Below w.heap.size w w := Below.refl _ _
  have H := Lib.hid ha
  clear ha
  go_enter Try.func21, Try.ntmps21
  go_wp2_with fail
  go_loopg [6] l.length (fun k i wr => ∃ j : Nat, k = l.length - j ∧ j ≤ l.length ∧ i = .int .i64 j ∧ Below w.heap.size w wr ∧ firstIn l j a = none)
  case atStart => exact ⟨0, rfl, by omega, rfl, hw, rfl⟩
  case round =>
    clear hw
    obtain ⟨j, hk, hj, rfl, hwr, hf⟩ := hrel
    have AA : Aside (gk = l.length - j ∧ firstIn l j a = none) := ⟨hk, hf⟩
    clear hk hf
    by_cases hlt : j < l.length
    · obtain ⟨b1, o1, x, rfl, hx, FA⟩ := H.out.at_ hlt
      obtain ⟨c0, c1, c2, c3, c4, c5⟩ := FA _ hwr
      by_cases he : x.2.1 = a
      · have hb : (x.2.1 == a) = true := by simpa using he
        have hz := first_mono (n := l.length) (by omega) (first_yes hx.out AA.out.2 he)
        have HZ := Lib.hid hz
        clear he hz
        go_wp2_with fail
        apply ret_of
        · simp only [results, Try.results21]
          go_simp
          with_reducible rfl
        refine ⟨rfl, ?_⟩
        exact ⟨by rw [HZ.out]; rfl, hwr⟩
      · have hb : (x.2.1 == a) = false := by simpa using he
        have HZ := Lib.hid he
        clear he
        go_wp2_with fail
        go_roundg (l.length - (j + 1))
        case measure => have hkk := AA.out.1; omega
        case rel => exact ⟨j + 1, rfl, by omega, by go_num, hwr, first_no hx.out AA.out.2 HZ.out⟩
    · obtain rfl : j = l.length := by omega
      go_wp2_with fail
      apply ret_of
      · simp only [results, Try.results21]
        go_simp
        with_reducible rfl
      refine ⟨rfl, ?_⟩
      exact ⟨by rw [AA.out.2]; rfl, hwr⟩

theorem find1_any (x : Ent) (b : Nat) (a : Int) (w : World) (hc : w.cell? ⟨b, 0, none⟩ = some (.int .i64 a)) (hb : b < w.heap.size) :
    Calls Try.prog 37 #[.agg (vals x).toArray, .pointer (some ⟨b, 0, none⟩)] w fun e w' => e = .returned (.bool (x.2.1 == a)) ∧ Below w.heap.size w w' := by
  have hn : ¬ b = w.heap.size := by omega
  unfold vals
  go_enter Try.func37, Try.ntmps37
  go_wp2
  go_ret
  exact ⟨rfl, by (repeat (first | with_reducible apply Below.drew | with_reducible refine Below.setCell ?_ (by first | exact Nat.le_refl _ | (simp; done) | (simp; omega) | omega) _ | with_reducible refine Below.alloc ?_ (by first | exact Nat.le_refl _ | (simp; done) | (simp; omega) | omega) _ | with_reducible exact Below.refl _ _ | with_reducible assumption))⟩

/-- Where an ID stands, as IndexFunc says it. -/
def whereI (o : Option Nat) : Int := match o with | some k => (k : Int) | none => -1

theorem index_any (l : List Ent) (A : Option Addr) (c : Nat) (b : Nat) (a : Int) (w : World) (ha : Ents w w.heap.size A l) (hl : l.length ≤ 9223372036854775807) (hc : w.cell? ⟨b, 0, none⟩ = some (.int .i64 a)) (hb : b < w.heap.size) :
    Calls Try.prog 36 #[.slice A l.length c, .func (.func 37) #[] #[.pointer (some ⟨b, 0, none⟩)]] w fun e w' => e = .returned (.int .i64 (whereI (firstIn l l.length a))) ∧ Below w.heap.size w w' := by
  have hw : Below w.heap.size w w := Below.refl _ _
  have H := Lib.hid ha
  have HC := Lib.hid hc
  clear ha hc
  go_enter Try.func36, Try.ntmps36
  go_wp2_with fail
  go_loopg [8] l.length (fun k i wr => ∃ j : Nat, k = l.length - j ∧ j ≤ l.length ∧ i = .int .i64 j ∧ Below w.heap.size w wr ∧ firstIn l j a = none)
  case atStart => exact ⟨0, rfl, by omega, rfl, hw, rfl⟩
  case round =>
    clear hw
    obtain ⟨j, hk, hj, rfl, hwr, hf⟩ := hrel
    have AA : Aside (gk = l.length - j ∧ firstIn l j a = none) := ⟨hk, hf⟩
    clear hk hf
    by_cases hlt : j < l.length
    · obtain ⟨b1, o1, x, rfl, hx, FA⟩ := H.out.at_ hlt
      obtain ⟨c0, c1, c2, c3, c4, c5⟩ := FA _ hwr
      go_wp2_with fail
      refine (find1_any x b a _ ((hwr.cell (p := ⟨b, 0, none⟩) hb).trans HC.out) (Nat.lt_of_lt_of_le hb hwr.size)).mono ?_
      rintro e w1 ⟨rfl, hb1⟩
      have hw1 := below_trans hwr hb1 hwr.size
      clear hb1 c0 c1 c2 c3 c4 c5
      by_cases he : x.2.1 = a
      · have hb : (x.2.1 == a) = true := by simpa using he
        have hz := first_mono (n := l.length) (by omega) (first_yes hx.out AA.out.2 he)
        have HZ := Lib.hid hz
        clear he hz
        go_wp2_with fail
        go_ret
        exact ⟨by rw [HZ.out]; rfl, hw1⟩
      · have hb : (x.2.1 == a) = false := by simpa using he
        have HZ := Lib.hid he
        clear he
        go_wp2_with fail
        go_roundg (l.length - (j + 1))
        case measure => have hkk := AA.out.1; omega
        case rel => exact ⟨j + 1, rfl, by omega, by go_num, hw1, first_no hx.out AA.out.2 HZ.out⟩
    · obtain rfl : j = l.length := by omega
      go_wp2_with fail
      go_ret
      exact ⟨by rw [AA.out.2]; rfl, hwr⟩

theorem find_any (l : List Ent) (A : Option Addr) (c : Nat) (a : Int) (w : World) (ha : Ents w w.heap.size A l) (hl : l.length ≤ 9223372036854775807) :
    Calls Try.prog 20 #[.slice A l.length c, .int .i64 a] w fun e w' => e = .returned (.tuple #[.int .i64 (whereK (firstIn l l.length a)), .bool (firstIn l l.length a).isSome]) ∧ Below w.heap.size w w' := by
  have hw : Below w.heap.size w w := Below.refl _ _
  have H := Lib.hid ha
  clear ha
  go_enter Try.func20, Try.ntmps20
  go_wp2_with fail
  refine (index_any l A c w.heap.size a _ ((H.out.keep (Nat.le_refl _) ((Below.refl _ _).alloc (Nat.le_refl _) _)).more (by simp)) hl (by go_simp) (by simp)).mono ?_
  rintro e w1 ⟨rfl, hb⟩
  have hw1 := below_trans (hw.alloc (Nat.le_refl _) _) hb (by simp)
  clear hb
  have hmax : max (whereI (firstIn l l.length a)) 0 = whereK (firstIn l l.length a) := by
    cases firstIn l l.length a <;> simp only [whereI, whereK] <;> omega
  have hge : (decide ((0 : Int) ≤ whereI (firstIn l l.length a))) = (firstIn l l.length a).isSome := by
    cases firstIn l l.length a <;> simp [whereI]
  go_wp2_with fail
  all_goals
    apply ret_of
    · simp only [results, Try.results20]
      go_simp
      with_reducible rfl
    refine ⟨rfl, ?_⟩
    refine ⟨?_, hw1⟩
    clear hmax
    cases hz : firstIn l l.length a
    · simp_all [whereI, whereK]
    · simp_all [whereI, whereK] <;> omega
end Go.Proofs.Ytifeokabecgimaa
