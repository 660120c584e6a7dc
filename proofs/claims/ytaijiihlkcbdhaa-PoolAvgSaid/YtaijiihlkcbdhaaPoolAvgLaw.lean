/-
  The law PoolAvg, as its row's proof takes it.
-/
import Derived.Test.YtaijiihlkcbdhaaAvgLaw
namespace Go.Proofs.Ytaijiihlkcbdhaa
open Go.RowKit
set_option linter.unusedVariables false
theorem poolAvg (a0 a1 a2 a3 a4 : Int) (W : World) (w0 : (Lit.int .i8 a0).wf = true) (w1 : (Lit.int .i64 a1).wf = true) (w2 : (Lit.int .i64 a2).wf = true) (w3 : (Lit.int .i64 a3).wf = true) (w4 : (Lit.int .i64 a4).wf = true) :
    Calls Try.prog 6 #[.int .i8 a0, .int .i64 a1, .int .i64 a2, .int .i64 a3, .int .i64 a4] W (fun r W' => r = .returned (.bool true) ∧ Below W.heap.size W W') :=
  avgLaw_any a0 a1 a2 a3 a4 W w0
end Go.Proofs.Ytaijiihlkcbdhaa
