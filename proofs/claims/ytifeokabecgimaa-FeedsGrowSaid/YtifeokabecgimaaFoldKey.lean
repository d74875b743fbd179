/-
  The keys of folds.Of's map: a struct of one int.
-/
import Derived.Test.YtifeokabecgimaaKMap
import Derived.Test.YtifeokabecgimaaProg
import Derived.DeepKeys4
set_option linter.unusedSimpArgs false
set_option linter.unusedVariables false
set_option maxRecDepth 100000
namespace Go.Proofs.Ytifeokabecgimaa
open Go Go.RowKit Go.MapKept Go.Maps Go.Km Go.WideMaps

theorem fkey_laid : laidOutB Try.prog = true := by kernel_rfl
theorem fkey_row : 79 < Try.prog.types.size := of_decide_eq_true (by kernel_rfl)
theorem fkey_wide : (match Try.prog.underlying 79 with | some (.array _ _) | some (.struct _) => true | _ => false) = true := by kernel_rfl
theorem fkey_law : KeyLaw Try.prog 79 := deep_law_laid fkey_laid (m := 2) (by omega) fkey_row (by kernel_rfl) fkey_wide

theorem fkey_key (a : Int) (h : (Lit.int .i64 a).wf = true) : keyOf Try.prog 79 (.agg #[.int .i64 a]) = some (.string (keyBytes [.int .i64 a])) := by
  have hu := Try.underlying79
  have hui := Try.underlying3
  have h1 : Try.prog.keyType 79 = true := by kernel_rfl
  have hc : Try.prog.cellsOf 79 = 1 := by kernel_rfl
  have hci : Try.prog.cellsOf 3 = 1 := by kernel_rfl
  have h2 : (Value.agg #[.int .i64 a]).formed Try.prog 79 = true := by simp [Value.formed, hu, hc]
  obtain ⟨s, hs⟩ : ∃ s, Try.prog.types.size = s + 1 := ⟨Try.prog.types.size - 1, by have := fkey_row; omega⟩
  unfold keyOf
  rw [hu]
  simp only [h1, h2, Bool.and_self, if_true, hs]
  have hk : Try.prog.keyLits (s + 1 + 1) 79 (Value.agg #[.int .i64 a]).cells.toList = some [.int .i64 a] := by
    unfold Program.keyLits
    rw [hu]
    simp only [Value.cells, hc]
    simp
    unfold Program.keyLits
    rw [hui, hci]
    simp [h]
  rw [hk]
  rfl

noncomputable def fdress : Dress Try.prog 79 where
  val a := .agg #[.int .i64 a]
  lit a := .string (keyBytes [.int .i64 a])
  keyed := Keyed.of_law fkey_law
  key := fkey_key
  inj a b h := by simpa using h
end Go.Proofs.Ytifeokabecgimaa
