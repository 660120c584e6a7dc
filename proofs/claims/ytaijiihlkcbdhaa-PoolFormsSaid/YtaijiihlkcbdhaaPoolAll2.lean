/-
  Avg, where there are windows.
-/
import Derived.Test.YtaijiihlkcbdhaaPoolAll
import Derived.Test.YtaijiihlkcbdhaaPoolAvgYes
namespace Go.Proofs.Ytaijiihlkcbdhaa
open Go.RowKit
set_option linter.unusedVariables false
theorem avg_good (a : Option Addr) (l c : Nat) (d : List Int) (e : Int) (b : Option Addr) (m k0 : Nat) (z : List Int) (k s : Int) (w : World) (h0 : RowAt .i64 w a l d) (h1 : RowAt .i8 w b m z) (ht : T.may d e z) (ho : overOk d k s) :
    Calls Try.prog 11 #[tensor a l c e b m k0, .int .i64 k, .int .i64 s] w (GivesA (T.outDims d k s) (e - k / 2 * 2) (T.sumOf d z k s) 0 w) := by
  obtain ⟨f1, f2, f3, f4, f5, f6, f7, f8, f9, _⟩ := T.facts ht ho
  obtain rfl : l = 4 := by rw [← h0.len_eq]; exact ho.1
  rw [h1.len_eq] at f8 f9
  exact avg_yes a c d e b m k0 z k s (T.rowsOf d k s) (T.colsOf d k s) (T.planes d) w h0 h1 ht f1 f2 f3 f4 f5 f6 f8 f9
end Go.Proofs.Ytaijiihlkcbdhaa
