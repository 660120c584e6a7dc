/-
  The row that tells how much less a mean's exponent is, element by element.
-/
import Derived.Test.YtaijiihlkcbdhaaMaxBack
namespace Go.Proofs.Ytaijiihlkcbdhaa
open Go.RowKit
set_option linter.unusedVariables false
theorem less_row (K : Int) (h0 : 0 ≤ K) (h5 : K ≤ 5) (w : World) : (Instr.index 47 (.agg #[.int .i64 0, .int .i64 0, .int .i64 2, .int .i64 2, .int .i64 4, .int .i64 4]) (.int .i64 K)).run Try.prog w = .ok (.int .i64 (K / 2 * 2)) w := by
  have h : K = 0 ∨ K = 1 ∨ K = 2 ∨ K = 3 ∨ K = 4 ∨ K = 5 := by omega
  rcases h with rfl | rfl | rfl | rfl | rfl | rfl <;> simp [Instr.index, run_underlying Try.underlying47, asIntOf, go_sem]
end Go.Proofs.Ytaijiihlkcbdhaa
