/-
  No cell of these rows narrows 'for every input' (looked for: loops, veiled, ifaces, maps, wideKeys, modest, calm, conditions, laid).
  DERIVED. THE GIVEN ROWS OF THIS SEAT. 5 by the template 'for every input the law returns true; each argument reads behind the call as it read before'; 0 by the template 'total and deterministic' (their statements: YtaijiihlkcbdhaaTotals.lean).
  GIVEN WITH THE SEED: the statements are not yours to turn. If you find one false, say at which input.
  Laid BY PROGRAM, IN A SANDBOX (cutbox-rows.mjs): the forced cells as the released guide's own fill.sh prints them over the translation 03a1cf5ac7dc0be8… (all of the seat's roots in one cut). By AI agents, Wed Nov 11 2026. No macro, syntax, notation, axiom, sorry.
-/
import Derived.Test.YtaijiihlkcbdhaaChecked
import GoSem.Claim
import GoSem.ClaimJoined
import GoSem.ClaimMapViews
import Derived.JoinedTies
import Derived.KernelRfl
namespace Go.Proofs.Ytaijiihlkcbdhaa
/- THE CELL 'sum', in the pinned program and in every row, IS THE sha256 OF THE DUMP (.gsa) THAT YtaijiihlkcbdhaaProg.lean LOADS. Nothing in Lean hashes anything: it is a label: what it is worth is what the hold of that sum in a sandbox is worth. -/
noncomputable def Try.pinned : Pinned := { name := "ytaijiihlkcbdhaa", sum := "03a1cf5ac7dc0be892be886bd9c92bafd6754c8aae187eb047d9440c3a546bcb", checked := Try.checked }
namespace Rows
def none {H : Type} : Left H := { results := [], args := [] }

/-- 'pedagoguelaw12.PoolOne': WHATEVER THE INPUT: true; the input reads as it did. -/
def poolOneSpec : ChangeSpec := { name := "poolOne", fn := fun _ => fun
  | [d1, d2] => { results := [.lit (.bool true)], args := [d1, d2] }
  | _ => none }
def poolOneRow : OpenClaim := { program := "ytaijiihlkcbdhaa", sum := "03a1cf5ac7dc0be892be886bd9c92bafd6754c8aae187eb047d9440c3a546bcb", func := "pedagogue/pedagoguelaw12.PoolOne", spec := "poolOne", unfollowed := true, recurses := true, apart := false }
def PoolOneSaid : Prop := poolOneRow.holds Try.pinned (OpenSpec.ofChange poolOneSpec)

/-- ITS FALSE NEIGHBOUR: 'it returns false'. Refute it at one input. -/
def poolOneWrong : ChangeSpec := { name := "poolOne", fn := fun _ => fun
  | [d1, d2] => { results := [.lit (.bool false)], args := [d1, d2] }
  | _ => none }
def PoolOneWrongFalsely : Prop := poolOneRow.holds Try.pinned (OpenSpec.ofChange poolOneWrong)

/-- 'pedagoguelaw12.PoolShift': WHATEVER THE INPUT: true; the input reads as it did. -/
def poolShiftSpec : ChangeSpec := { name := "poolShift", fn := fun _ => fun
  | [d1, d2, d3] => { results := [.lit (.bool true)], args := [d1, d2, d3] }
  | _ => none }
def poolShiftRow : OpenClaim := { program := "ytaijiihlkcbdhaa", sum := "03a1cf5ac7dc0be892be886bd9c92bafd6754c8aae187eb047d9440c3a546bcb", func := "pedagogue/pedagoguelaw12.PoolShift", spec := "poolShift", unfollowed := true, recurses := true, apart := false }
def PoolShiftSaid : Prop := poolShiftRow.holds Try.pinned (OpenSpec.ofChange poolShiftSpec)

/-- ITS FALSE NEIGHBOUR: 'it returns false'. Refute it at one input. -/
def poolShiftWrong : ChangeSpec := { name := "poolShift", fn := fun _ => fun
  | [d1, d2, d3] => { results := [.lit (.bool false)], args := [d1, d2, d3] }
  | _ => none }
def PoolShiftWrongFalsely : Prop := poolShiftRow.holds Try.pinned (OpenSpec.ofChange poolShiftWrong)

/-- 'pedagoguelaw12.PoolMax': WHATEVER THE INPUT: true; the input reads as it did. -/
def poolMaxSpec : ChangeSpec := { name := "poolMax", fn := fun _ => fun
  | [d1, d2, d3, d4] => { results := [.lit (.bool true)], args := [d1, d2, d3, d4] }
  | _ => none }
def poolMaxRow : OpenClaim := { program := "ytaijiihlkcbdhaa", sum := "03a1cf5ac7dc0be892be886bd9c92bafd6754c8aae187eb047d9440c3a546bcb", func := "pedagogue/pedagoguelaw12.PoolMax", spec := "poolMax", unfollowed := true, recurses := true, apart := false }
def PoolMaxSaid : Prop := poolMaxRow.holds Try.pinned (OpenSpec.ofChange poolMaxSpec)

/-- ITS FALSE NEIGHBOUR: 'it returns false'. Refute it at one input. -/
def poolMaxWrong : ChangeSpec := { name := "poolMax", fn := fun _ => fun
  | [d1, d2, d3, d4] => { results := [.lit (.bool false)], args := [d1, d2, d3, d4] }
  | _ => none }
def PoolMaxWrongFalsely : Prop := poolMaxRow.holds Try.pinned (OpenSpec.ofChange poolMaxWrong)

/-- 'pedagoguelaw12.PoolAvg': WHATEVER THE INPUT: true; the input reads as it did. -/
def poolAvgSpec : ChangeSpec := { name := "poolAvg", fn := fun _ => fun
  | [d1, d2, d3, d4, d5] => { results := [.lit (.bool true)], args := [d1, d2, d3, d4, d5] }
  | _ => none }
def poolAvgRow : OpenClaim := { program := "ytaijiihlkcbdhaa", sum := "03a1cf5ac7dc0be892be886bd9c92bafd6754c8aae187eb047d9440c3a546bcb", func := "pedagogue/pedagoguelaw12.PoolAvg", spec := "poolAvg", unfollowed := true, recurses := true, apart := false }
def PoolAvgSaid : Prop := poolAvgRow.holds Try.pinned (OpenSpec.ofChange poolAvgSpec)

/-- ITS FALSE NEIGHBOUR: 'it returns false'. Refute it at one input. -/
def poolAvgWrong : ChangeSpec := { name := "poolAvg", fn := fun _ => fun
  | [d1, d2, d3, d4, d5] => { results := [.lit (.bool false)], args := [d1, d2, d3, d4, d5] }
  | _ => none }
def PoolAvgWrongFalsely : Prop := poolAvgRow.holds Try.pinned (OpenSpec.ofChange poolAvgWrong)

/-- 'pedagoguelaw12.PoolForms': WHATEVER THE INPUT: true; the input reads as it did. -/
def poolFormsSpec : ChangeSpec := { name := "poolForms", fn := fun _ => fun
  | [d1, d2, d3, d4, d5, d6] => { results := [.lit (.bool true)], args := [d1, d2, d3, d4, d5, d6] }
  | _ => none }
def poolFormsRow : OpenClaim := { program := "ytaijiihlkcbdhaa", sum := "03a1cf5ac7dc0be892be886bd9c92bafd6754c8aae187eb047d9440c3a546bcb", func := "pedagogue/pedagoguelaw12.PoolForms", spec := "poolForms", unfollowed := true, recurses := true, apart := false }
def PoolFormsSaid : Prop := poolFormsRow.holds Try.pinned (OpenSpec.ofChange poolFormsSpec)

/-- ITS FALSE NEIGHBOUR: 'it returns false'. Refute it at one input. -/
def poolFormsWrong : ChangeSpec := { name := "poolForms", fn := fun _ => fun
  | [d1, d2, d3, d4, d5, d6] => { results := [.lit (.bool false)], args := [d1, d2, d3, d4, d5, d6] }
  | _ => none }
def PoolFormsWrongFalsely : Prop := poolFormsRow.holds Try.pinned (OpenSpec.ofChange poolFormsWrong)

/- THE SECOND FORM. 'bulk': how many values and letters a reading holds, each counted each time it is reached (what is shared counts as often as it is met; a slice's spare places count too). A statement '..UptoSaid' is the law's where the arguments, and the package variables that the reading takes, are together of bulk at most 1048576: NARROWER than '..Said'. Prove '..Said' where nothing that the law and all that it calls make is longer than what came in: it says more and counts as full. Else prove '..UptoSaid'. A law counts once. -/
mutual
def uptoBulk {H : Type} : DataW H → Nat
  | .lit (.string bytes) => bytes.length + 1
  | .lit _ => 1
  | .nil => 1
  | .ptr d => uptoBulk d + 1
  | .slice elems spare => uptoBulkAll elems + uptoBulkAll spare + 1
  | .agg parts => uptoBulkAll parts + 1
  | .iface _ d => uptoBulk d + 1
  | .map entries => uptoBulkEntries entries + 1
  | .held _ => 1
def uptoBulkAll {H : Type} : List (DataW H) → Nat
  | [] => 0
  | d :: r => uptoBulk d + uptoBulkAll r
def uptoBulkEntries {H : Type} : List (Lit × DataW H) → Nat
  | [] => 0
  | x :: r => uptoBulkEntry x + uptoBulkEntries r
def uptoBulkEntry {H : Type} : Lit × DataW H → Nat
  | (.string bytes, d) => bytes.length + uptoBulk d + 1
  | (_, d) => uptoBulk d + 1
 end
def uptoSmall : (H : Type) → List (DataW H) → Bool := fun _ ds => decide (uptoBulkAll ds ≤ 1048576)
def OpenSpec.upto (s : _root_.Go.ChangeSpec) : _root_.Go.OpenSpec := { _root_.Go.OpenSpec.ofChange s with cond := some uptoSmall }

/-- 'pedagoguelaw12.PoolOne', WHERE WHAT IT READS IS OF BULK AT MOST 1048576: true; the input reads as it did. -/
def poolOneUptoRow : OpenClaim := { program := "ytaijiihlkcbdhaa", sum := "03a1cf5ac7dc0be892be886bd9c92bafd6754c8aae187eb047d9440c3a546bcb", func := "pedagogue/pedagoguelaw12.PoolOne", spec := "poolOne", unfollowed := true, recurses := true, apart := false, narrowed := true }
def PoolOneUptoSaid : Prop := poolOneUptoRow.holds Try.pinned (OpenSpec.upto poolOneSpec)

/-- 'pedagoguelaw12.PoolShift', WHERE WHAT IT READS IS OF BULK AT MOST 1048576: true; the input reads as it did. -/
def poolShiftUptoRow : OpenClaim := { program := "ytaijiihlkcbdhaa", sum := "03a1cf5ac7dc0be892be886bd9c92bafd6754c8aae187eb047d9440c3a546bcb", func := "pedagogue/pedagoguelaw12.PoolShift", spec := "poolShift", unfollowed := true, recurses := true, apart := false, narrowed := true }
def PoolShiftUptoSaid : Prop := poolShiftUptoRow.holds Try.pinned (OpenSpec.upto poolShiftSpec)

/-- 'pedagoguelaw12.PoolMax', WHERE WHAT IT READS IS OF BULK AT MOST 1048576: true; the input reads as it did. -/
def poolMaxUptoRow : OpenClaim := { program := "ytaijiihlkcbdhaa", sum := "03a1cf5ac7dc0be892be886bd9c92bafd6754c8aae187eb047d9440c3a546bcb", func := "pedagogue/pedagoguelaw12.PoolMax", spec := "poolMax", unfollowed := true, recurses := true, apart := false, narrowed := true }
def PoolMaxUptoSaid : Prop := poolMaxUptoRow.holds Try.pinned (OpenSpec.upto poolMaxSpec)

/-- 'pedagoguelaw12.PoolAvg', WHERE WHAT IT READS IS OF BULK AT MOST 1048576: true; the input reads as it did. -/
def poolAvgUptoRow : OpenClaim := { program := "ytaijiihlkcbdhaa", sum := "03a1cf5ac7dc0be892be886bd9c92bafd6754c8aae187eb047d9440c3a546bcb", func := "pedagogue/pedagoguelaw12.PoolAvg", spec := "poolAvg", unfollowed := true, recurses := true, apart := false, narrowed := true }
def PoolAvgUptoSaid : Prop := poolAvgUptoRow.holds Try.pinned (OpenSpec.upto poolAvgSpec)

/-- 'pedagoguelaw12.PoolForms', WHERE WHAT IT READS IS OF BULK AT MOST 1048576: true; the input reads as it did. -/
def poolFormsUptoRow : OpenClaim := { program := "ytaijiihlkcbdhaa", sum := "03a1cf5ac7dc0be892be886bd9c92bafd6754c8aae187eb047d9440c3a546bcb", func := "pedagogue/pedagoguelaw12.PoolForms", spec := "poolForms", unfollowed := true, recurses := true, apart := false, narrowed := true }
def PoolFormsUptoSaid : Prop := poolFormsUptoRow.holds Try.pinned (OpenSpec.upto poolFormsSpec)

end Rows
end Go.Proofs.Ytaijiihlkcbdhaa
