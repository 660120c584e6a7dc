/-
  The law PoolOne, as its row's proof takes it.
-/
import Derived.Test.YtaijiihlkcbdhaaPoolOne
namespace Go.Proofs.Ytaijiihlkcbdhaa
open Go.RowKit
set_option linter.unusedVariables false
theorem poolOne (a : Option Addr) (l c : Nat) (x : List Int) (e : Int) (b : Option Addr) (m k : Nat) (z : List Int) (s : Int) (W : World) (h0 : IsRow .i64 8 W a l c x) (h1 : IsRow .i8 1 W b m k z) (he : (Lit.int .i64 e).wf = true) (hs : (Lit.int .i64 s).wf = true) :
    Calls Try.prog 3 #[tensor a l c e b m k, .int .i64 s] W (fun r W' => r = .returned (.bool true) ∧ Below W.heap.size W W') :=
  poolOne_any a l c (x.take l) e b m k (z.take m) s W (h0.at (by omega)) (h1.at (by omega)) (by have := (h1.at (by omega)).len_le; omega)
end Go.Proofs.Ytaijiihlkcbdhaa
