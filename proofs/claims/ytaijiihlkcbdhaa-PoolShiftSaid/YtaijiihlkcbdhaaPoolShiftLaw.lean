/-
  The law PoolShift, as its row's proof takes it.
-/
import Derived.Test.YtaijiihlkcbdhaaPoolShift
namespace Go.Proofs.Ytaijiihlkcbdhaa
open Go.RowKit
set_option linter.unusedVariables false
theorem poolShift (a : Option Addr) (l c : Nat) (x : List Int) (e : Int) (b : Option Addr) (m k0 : Nat) (z : List Int) (k s : Int) (W : World) (h0 : IsRow .i64 8 W a l c x) (h1 : IsRow .i8 1 W b m k0 z) (he : (Lit.int .i64 e).wf = true) (hk : (Lit.int .i64 k).wf = true) (hs : (Lit.int .i64 s).wf = true) :
    Calls Try.prog 4 #[tensor a l c e b m k0, .int .i64 k, .int .i64 s] W (fun r W' => r = .returned (.bool true) ∧ Below W.heap.size W W') :=
  poolShift_any a l c (x.take l) e b m k0 (z.take m) k s W (h0.at (by omega)) (h1.at (by omega))
end Go.Proofs.Ytaijiihlkcbdhaa
