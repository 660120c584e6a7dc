/-
  The law PoolForms, as its row's proof takes it.
-/
import Derived.Test.YtaijiihlkcbdhaaPoolForms
namespace Go.Proofs.Ytaijiihlkcbdhaa
open Go.RowKit
set_option linter.unusedVariables false
theorem poolForms (a : Option Addr) (l c : Nat) (x : List Int) (e : Int) (b : Option Addr) (m k0 : Nat) (z : List Int) (a' : Option Addr) (l' c' : Nat) (x' : List Int) (e' : Int) (b' : Option Addr) (m' k0' : Nat) (z' : List Int) (k s : Int) (fa : Option Addr) (fl fc : Nat) (f : List Int) (da : Option Addr) (dl dc : Nat) (d : List Int) (W : World) (h0 : IsRow .i64 8 W a l c x) (h1 : IsRow .i8 1 W b m k0 z) (he : (Lit.int .i64 e).wf = true) (h0' : IsRow .i64 8 W a' l' c' x') (h1' : IsRow .i8 1 W b' m' k0' z') (he' : (Lit.int .i64 e').wf = true) (hk : (Lit.int .i64 k).wf = true) (hs : (Lit.int .i64 s).wf = true) (hf : IsRow .i64 8 W fa fl fc f) (hd : IsRow .i64 8 W da dl dc d) :
    Calls Try.prog 7 #[tensor a l c e b m k0, tensor a' l' c' e' b' m' k0', .int .i64 k, .int .i64 s, .slice fa fl fc, .slice da dl dc] W (fun r W' => r = .returned (.bool true) ∧ Below W.heap.size W W') :=
  poolForms_any a l c (x.take l) e b m k0 (z.take m) a' l' c' (x'.take l') e' b' m' k0' (z'.take m') k s fa fl fc (f.take fl) da dl dc (d.take dl) W (h0.at (by omega)) (h1.at (by omega)) (h0'.at (by omega)) (h1'.at (by omega)) (hf.at (by omega)) (hd.at (by omega))
end Go.Proofs.Ytaijiihlkcbdhaa
