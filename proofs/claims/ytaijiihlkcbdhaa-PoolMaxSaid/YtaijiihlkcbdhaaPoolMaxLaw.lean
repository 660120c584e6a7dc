/-
  The law PoolMax, as its row's proof takes it.
-/
import Derived.Test.YtaijiihlkcbdhaaPoolMaxGood
import Derived.Test.YtaijiihlkcbdhaaPoolMaxBad
namespace Go.Proofs.Ytaijiihlkcbdhaa
open Go.RowKit
set_option linter.unusedVariables false
theorem poolMax (a : Option Addr) (l c : Nat) (x : List Int) (e : Int) (b : Option Addr) (m k0 : Nat) (z : List Int) (k s : Int) (ga : Option Addr) (gl gc : Nat) (g : List Int) (W : World) (h0 : IsRow .i64 8 W a l c x) (h1 : IsRow .i8 1 W b m k0 z) (he : (Lit.int .i64 e).wf = true) (hk : (Lit.int .i64 k).wf = true) (hs : (Lit.int .i64 s).wf = true) (hg : IsRow .i8 1 W ga gl gc g) :
    Calls Try.prog 5 #[tensor a l c e b m k0, .int .i64 k, .int .i64 s, .slice ga gl gc] W (fun r W' => r = .returned (.bool true) ∧ Below W.heap.size W W') := by
  by_cases h : T.err (x.take l) e (z.take m) k s = 0 ∧ m ≤ 2000
  · exact poolMax_good a l c (x.take l) e b m k0 (z.take m) k s ga gl gc (g.take gl) W (h0.at (by omega)) (h1.at (by omega)) (hg.at (by omega)) h.1 h.2
  · exact poolMax_bad a l c (x.take l) e b m k0 (z.take m) k s ga gl gc W (h0.at (by omega)) (h1.at (by omega)) h
end Go.Proofs.Ytaijiihlkcbdhaa
