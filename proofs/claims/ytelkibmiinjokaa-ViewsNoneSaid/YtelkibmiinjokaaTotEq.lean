/-
  Totals compared with themselves.
-/
import Derived.Test.YtelkibmiinjokaaItems
import Derived.ChangeKeysEq
set_option linter.unusedSimpArgs false
set_option linter.unusedVariables false
set_option maxRecDepth 100000
namespace Go.Proofs.Ytelkibmiinjokaa
open Go Go.RowKit Go.Sq Go.Wd Go.Arch

abbrev arrv (t : Tot) : Value := .agg #[.int .i64 t.s0.tag, .bool t.s0.closed, .int .i64 t.s0.sum, .int .i64 t.s0.ver, .int .i64 t.s1.tag, .bool t.s1.closed, .int .i64 t.s1.sum, .int .i64 t.s1.ver,
  .int .i64 t.s2.tag, .bool t.s2.closed, .int .i64 t.s2.sum, .int .i64 t.s2.ver, .int .i64 t.s3.tag, .bool t.s3.closed, .int .i64 t.s3.sum, .int .i64 t.s3.ver]
theorem arr_eq (t : Tot) (w : World) : (Op.equalIn 9999 49 (arrv t) (arrv t)).run Try.prog w = .ok true w := by
  have g0 := Try.underlying48
  have hc : Try.prog.cellsOf 48 = 4 := by kernel_rfl
  have hi : ∃ i, Try.prog.info? 48 = some i := ⟨_, rfl⟩
  obtain ⟨i, hi⟩ := hi
  unfold arrv
  rw [run_equalIn_array w 9998 _ _ Try.underlying49 hi, hc]
  simp [Op.eqItems, List.range, List.range.loop, go_sem]
theorem neq_tot (w : World) (t : Tot) : (binOp .neq 51 (.agg (totv t).toArray) (.agg (totv t).toArray)).run Try.prog w = .ok (.bool false) w := by
  have g0 := Try.underlying51
  have h := arr_eq t
  unfold arrv at h
  simp [totv, go_sem, h]
theorem eql_tot (w : World) (t : Tot) : (binOp .eql 51 (.agg (totv t).toArray) (.agg (totv t).toArray)).run Try.prog w = .ok (.bool true) w := by
  have g0 := Try.underlying51
  have h := arr_eq t
  unfold arrv at h
  simp [totv, go_sem, h]
end Go.Proofs.Ytelkibmiinjokaa
