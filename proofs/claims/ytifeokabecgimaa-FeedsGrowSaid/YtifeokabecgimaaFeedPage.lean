/-
  The walk over a page.
-/
import Derived.Test.YtifeokabecgimaaFeedClone
set_option linter.unusedSimpArgs false
set_option linter.unusedVariables false
set_option maxRecDepth 100000
namespace Go.Proofs.Ytifeokabecgimaa
open Go Go.RowKit Go.Sq Go.Wd Go.Arch

/-- A page's end. -/
def pageN (n F K : Nat) : Nat := min K (n - F)
theorem ItsR.part {w : World} {b off : Nat} {l : List IA} (h : ItsR w (some ⟨b, off, none⟩) l) (F K : Nat) : ItsR w (some ⟨b, off + F * 10, none⟩) ((l.drop F).take K) := (h.drop F).take K

theorem ItsR.sub {w : World} {a : Addr} {l : List IA} (h : ItsR w (some a) l) (F K : Nat) : ItsR w (some (a.add (F * 10))) ((l.drop F).take K) := by
  rcases Nat.eq_zero_or_pos l.length with h0 | h0
  · obtain rfl : l = [] := List.eq_nil_of_length_eq_zero h0
    simp only [List.drop_nil, List.take_nil]
    exact ItsR.nil
  · obtain ⟨b, off, x, sl, ha, _⟩ := h.at_ h0
    cases ha
    rw [Gr.add_at]
    exact h.part F K
set_option maxHeartbeats 4000000 in
theorem page_bad (l : List IA) (A : Option Addr) (c : Nat) (from_ most : Int) (w : World) (hb : ¬ (0 ≤ from_ ∧ from_ ≤ l.length ∧ 0 ≤ most)) :
    Calls Try.prog 31 #[.slice A l.length c, .int .i64 from_, .int .i64 most] w fun e w' => e = .returned (.tuple #[.slice none 0 0, .int .i64 0, .int .i64 2]) ∧ w' = w := by
  have hcc : from_ < 0 ∨ (¬ from_ < 0 ∧ (l.length : Int) < from_) ∨ (¬ from_ < 0 ∧ ¬ (l.length : Int) < from_ ∧ most < 0) := by omega
  clear hb
  rcases hcc with h0 | ⟨h0, h1⟩ | ⟨h0, h1, h2⟩
  all_goals
    go_enter Try.func31, Try.ntmps31
    go_wp2_with fail
    apply ret_of
    · simp only [results, Try.results31]
      go_simp
      with_reducible rfl
    exact ⟨rfl, rfl, rfl⟩

set_option maxHeartbeats 4000000 in
theorem page_any (l : List IA) (A : Option Addr) (c F K : Nat) (w : World) (h : ItsR w A l) (hl : l.length ≤ 90000) (hc : l.length ≤ c) (hA : A = none → c = 0) (hF : F ≤ l.length) (hK : K ≤ 9223372036854775807) (hc2 : c ≤ 9223372036854775807) :
    Calls Try.prog 31 #[.slice A l.length c, .int .i64 F, .int .i64 K] w fun e w' => ∃ v, e = .returned (.tuple #[v, .int .i64 (F + pageN l.length F K : Nat), .int .i64 0]) ∧ Its w' w.heap.size v ((l.drop F).take (pageN l.length F K)) ∧ Below w.heap.size w w' := by
  have hlen : ((l.drop F).take (pageN l.length F K)).length = pageN l.length F K := by rw [List.length_take, List.length_drop]; unfold pageN; omega
  have hp : pageN l.length F K ≤ l.length - F := Nat.min_le_right _ _
  obtain ⟨N, hN⟩ : ∃ z, pageN l.length F K = z := ⟨_, rfl⟩
  have hmin : min (K : Int) ((l.length : Int) - (F : Int)) = (N : Int) := by rw [← hN]; unfold pageN; omega
  rw [hN] at hlen hp ⊢
  have H := Lib.hid h
  have HN := Lib.hid hlen
  clear hN hlen h
  have h0 : ¬ (F : Int) < 0 := by omega
  have h1 : ¬ (l.length : Int) < (F : Int) := by omega
  have h2 : ¬ (K : Int) < 0 := by omega
  have hcc : (K : Int) ≤ (l.length : Int) - (F : Int) ∧ (N : Int) = K ∨ ¬ (K : Int) ≤ (l.length : Int) - (F : Int) ∧ (N : Int) = (l.length : Int) - F := by omega
  clear hmin
  cases A with
  | none =>
    obtain rfl := hA rfl
    obtain rfl : l = [] := List.eq_nil_of_length_eq_zero (by omega)
    simp only [List.length_nil] at *
    obtain rfl : F = 0 := by omega
    obtain rfl : N = 0 := by omega
    have hcc2 : (K : Int) ≤ 0 ∧ K = 0 ∨ ¬ (K : Int) ≤ 0 ∧ 0 < K := by omega
    clear hcc
    rcases hcc2 with ⟨h3, rfl⟩ | ⟨h3, _⟩
    all_goals
      go_enter Try.func31, Try.ntmps31
      go_wp2_with fail
      refine (clone_it [] none 0 w ItsR.nil (by simp) (fun _ => rfl)).mono ?_
      rintro e w1 ⟨v, rfl, hI, hb⟩
      go_wp2_with fail
      apply ret_of
      · simp only [results, Try.results31]
        go_simp
        with_reducible rfl
      exact ⟨rfl, v, by simp, hI, hb⟩
  | some a =>
    clear hA
    by_cases hcF : c = F
    case pos =>
      subst hcF
      obtain rfl : N = 0 := by omega
      have hcl : l.length = c := by omega
      rw [hcl] at *
      have hd : (l.drop c).take 0 = [] := by simp
      have HD := Lib.hid hd
      clear hd
      have HC := Lib.hid (clone_it [] (some a) 0 w ItsR.nil (by simp) (fun e => by cases e))
      rcases hcc with ⟨h3, h4⟩ | ⟨h3, h4⟩
      · obtain rfl : K = 0 := by omega
        clear h3 h4
        go_enter Try.func31, Try.ntmps31
        go_wp2_with fail
        refine HC.out.mono ?_
        rintro e w1 ⟨v, rfl, hI, hb⟩
        go_wp2_with fail
        apply ret_of
        · simp only [results, Try.results31]
          go_simp
          with_reducible rfl
        refine ⟨rfl, ?_⟩
        exact ⟨v, by simp, by rw [HD.out]; exact hI, hb⟩
      · clear h4
        go_enter Try.func31, Try.ntmps31
        go_wp2_with fail
        refine HC.out.mono ?_
        rintro e w1 ⟨v, rfl, hI, hb⟩
        go_wp2_with fail
        apply ret_of
        · simp only [results, Try.results31]
          go_simp
          with_reducible rfl
        refine ⟨rfl, ?_⟩
        exact ⟨v, by simp, by rw [HD.out]; exact hI, hb⟩
    case neg =>
      have hFc : ¬ (c : Int) ≤ (F : Int) := by omega
      have hcl := clone_it ((l.drop F).take N) (some (a.add (F * 10))) (c - F) w (H.out.sub F N) (by rw [HN.out]; omega) (fun e => by cases e)
      rw [HN.out] at hcl
      have HC := Lib.hid hcl
      clear hcl
      rcases hcc with ⟨h3, h4⟩ | ⟨h3, h4⟩
      · obtain rfl : K = N := by omega
        clear h4
        go_enter Try.func31, Try.ntmps31
        go_wp2_with fail
        refine HC.out.mono ?_
        rintro e w1 ⟨v, rfl, hI, hb⟩
        go_wp2_with fail
        apply ret_of
        · simp only [results, Try.results31]
          go_simp
          with_reducible rfl
        refine ⟨rfl, ?_⟩
        exact ⟨v, by simp, hI, hb⟩
      · obtain rfl : N = l.length - F := by omega
        have e4 : (F : Int) + ((l.length : Int) - (F : Int)) = ((F + (l.length - F) : Nat) : Int) := by omega
        clear h4
        go_enter Try.func31, Try.ntmps31
        go_wp2_with fail
        refine HC.out.mono ?_
        rintro e w1 ⟨v, rfl, hI, hb⟩
        go_wp2_with fail
        apply ret_of
        · simp only [results, Try.results31]
          go_simp
          with_reducible rfl
        refine ⟨rfl, ?_⟩
        exact ⟨v, by rw [show F + (l.length - F) = l.length from by omega], hI, hb⟩
end Go.Proofs.Ytifeokabecgimaa
