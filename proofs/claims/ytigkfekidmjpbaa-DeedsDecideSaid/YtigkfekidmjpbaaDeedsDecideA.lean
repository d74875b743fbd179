/-
  The walk over the statement 'DeedsDecide', whole.
-/
import Derived.Test.YtigkfekidmjpbaaProg
import Derived.Test.YtigkfekidmjpbaaSeq
import Derived.WalkKit
import Derived.WalkSpells
import Derived.WalkLawsBesides
import Derived.RowKit3
import Derived.Lib.Hide
import Derived.Test.YtigkfekidmjpbaaDeedsDecideW
import Derived.Test.YtigkfekidmjpbaaDeedsDecideW2
set_option linter.unusedSimpArgs false
set_option linter.unusedVariables false
namespace Go.Proofs.Ytigkfekidmjpbaa
open Go.RowKit Go.Sq Go.Arch
theorem law_decide (t s v x0 x1 x2 x3 x4 : Int) (c : Bool) (w : World) :
    Calls Try.prog 7 #[.agg #[.int .i64 t, .bool c, .int .i64 s, .int .i64 v], .agg #[.int .i64 x0, .int .i64 x1, .int .i64 x2, .int .i64 x3, .int .i64 x4]] w fun e w' => e = .returned (.bool true) ∧ Below w.heap.size w w' := by
  by_cases h : codeS ⟨t, c, s, v⟩ ⟨x0, x1, x2, x3, x4⟩ = 1
  · exact law_decide_yes t s v x0 x1 x2 x3 x4 c w h
  · exact law_decide_no t s v x0 x1 x2 x3 x4 c w h
end Go.Proofs.Ytigkfekidmjpbaa
