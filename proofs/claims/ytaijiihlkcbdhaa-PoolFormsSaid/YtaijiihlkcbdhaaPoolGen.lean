/-
  Max and Avg, whatever comes, in one law each.
-/
import Derived.Test.YtaijiihlkcbdhaaPoolAll2
namespace Go.Proofs.Ytaijiihlkcbdhaa
open Go.RowKit
set_option linter.unusedVariables false
namespace T
def gDims (d : List Int) (e : Int) (z : List Int) (k s : Int) : List Int := if err d e z k s = 0 then outDims d k s else []
def gExp (d : List Int) (e : Int) (z : List Int) (k s : Int) : Int := if err d e z k s = 0 then e else 0
def gMax (d : List Int) (e : Int) (z : List Int) (k s : Int) : List Int := if err d e z k s = 0 then maxOf d z k s else []
def gTop (d : List Int) (e : Int) (z : List Int) (k s : Int) : List Int := if err d e z k s = 0 then topOf d z k s else []
def gLess (d : List Int) (e : Int) (z : List Int) (k s : Int) : Int := if err d e z k s = 0 then e - k / 2 * 2 else 0
def gSum (d : List Int) (e : Int) (z : List Int) (k s : Int) : List Int := if err d e z k s = 0 then sumOf d z k s else []
end T
theorem max_gen (a : Option Addr) (l c : Nat) (d : List Int) (e : Int) (b : Option Addr) (m k0 : Nat) (z : List Int) (k s : Int) (w : World) (h0 : RowAt .i64 w a l d) (h1 : RowAt .i8 w b m z) :
    Calls Try.prog 10 #[tensor a l c e b m k0, .int .i64 k, .int .i64 s] w (GivesT (T.gDims d e z k s) (T.gExp d e z k s) (T.gMax d e z k s) (T.gTop d e z k s) (T.err d e z k s) w) := by
  unfold T.gDims T.gExp T.gMax T.gTop
  by_cases h : T.err d e z k s = 0
  · rw [if_pos h, if_pos h, if_pos h, if_pos h, h]
    obtain ⟨ht, ho⟩ := T.err_zero h
    exact max_good a l c d e b m k0 z k s w h0 h1 ht ho
  · rw [if_neg h, if_neg h, if_neg h, if_neg h]
    exact max_bad a l c d e b m k0 z k s w h0 h1 h
theorem avg_gen (a : Option Addr) (l c : Nat) (d : List Int) (e : Int) (b : Option Addr) (m k0 : Nat) (z : List Int) (k s : Int) (w : World) (h0 : RowAt .i64 w a l d) (h1 : RowAt .i8 w b m z) :
    Calls Try.prog 11 #[tensor a l c e b m k0, .int .i64 k, .int .i64 s] w (GivesA (T.gDims d e z k s) (T.gLess d e z k s) (T.gSum d e z k s) (T.err d e z k s) w) := by
  unfold T.gDims T.gLess T.gSum
  by_cases h : T.err d e z k s = 0
  · rw [if_pos h, if_pos h, if_pos h, h]
    obtain ⟨ht, ho⟩ := T.err_zero h
    exact avg_good a l c d e b m k0 z k s w h0 h1 ht ho
  · rw [if_neg h, if_neg h, if_neg h]
    exact avg_bad a l c d e b m k0 z k s w h0 h1 h
end Go.Proofs.Ytaijiihlkcbdhaa
