/-
  No cell of these rows narrows 'for every input' (looked for: loops, veiled, ifaces, maps, wideKeys, modest, calm, conditions, laid).
  DERIVED. THE GIVEN ROWS OF THIS SEAT. 11 by the template 'for every input the law returns true; each argument reads behind the call as it read before'; 0 by the template 'total and deterministic' (their statements: YtfmoolnoalomeaaTotals.lean).
  GIVEN WITH THE SEED: the statements are not yours to turn. If you find one false, say at which input.
  Laid BY PROGRAM, IN A SANDBOX (cutbox-rows.mjs): the forced cells as the released guide's own fill.sh prints them over the translation dadd9ee085a00578… (all of the seat's roots in one cut). By AI agents, Wed Nov 11 2026. No macro, syntax, notation, axiom, sorry.
-/
import Derived.Test.YtfmoolnoalomeaaChecked
import GoSem.Claim
import GoSem.ClaimJoined
import GoSem.ClaimMapViews
import Derived.JoinedTies
import Derived.KernelRfl
namespace Go.Proofs.Ytfmoolnoalomeaa
/- THE CELL 'sum', in the pinned program and in every row, IS THE sha256 OF THE DUMP (.gsa) THAT YtfmoolnoalomeaaProg.lean LOADS. Nothing in Lean hashes anything: it is a label: what it is worth is what the hold of that sum in a sandbox is worth. -/
noncomputable def Try.pinned : Pinned := { name := "ytfmoolnoalomeaa", sum := "dadd9ee085a00578717212afa7c06dfdd7a31d98bbf68134360e70ee7ccfb48a", checked := Try.checked }
namespace Rows
def none {H : Type} : Left H := { results := [], args := [] }

/-- 'pedagoguelaw4.SumReckons': WHATEVER THE INPUT: true; the input reads as it did. -/
def sumReckonsSpec : ChangeSpec := { name := "sumReckons", fn := fun _ => fun
  | [d] => { results := [.lit (.bool true)], args := [d] }
  | _ => none }
def sumReckonsRow : OpenClaim := { program := "ytfmoolnoalomeaa", sum := "dadd9ee085a00578717212afa7c06dfdd7a31d98bbf68134360e70ee7ccfb48a", func := "pedagogue/pedagoguelaw4.SumReckons", spec := "sumReckons", apart := false }
def SumReckonsSaid : Prop := sumReckonsRow.holds Try.pinned (OpenSpec.ofChange sumReckonsSpec)

/-- ITS FALSE NEIGHBOUR: 'it returns false'. Refute it at one input. -/
def sumReckonsWrong : ChangeSpec := { name := "sumReckons", fn := fun _ => fun
  | [d] => { results := [.lit (.bool false)], args := [d] }
  | _ => none }
def SumReckonsWrongFalsely : Prop := sumReckonsRow.holds Try.pinned (OpenSpec.ofChange sumReckonsWrong)

/-- 'pedagoguelaw4.SumTells': WHATEVER THE INPUT: true; the input reads as it did. -/
def sumTellsSpec : ChangeSpec := { name := "sumTells", fn := fun _ => fun
  | [d1, d2, d3] => { results := [.lit (.bool true)], args := [d1, d2, d3] }
  | _ => none }
def sumTellsRow : OpenClaim := { program := "ytfmoolnoalomeaa", sum := "dadd9ee085a00578717212afa7c06dfdd7a31d98bbf68134360e70ee7ccfb48a", func := "pedagogue/pedagoguelaw4.SumTells", spec := "sumTells", apart := false }
def SumTellsSaid : Prop := sumTellsRow.holds Try.pinned (OpenSpec.ofChange sumTellsSpec)

/-- ITS FALSE NEIGHBOUR: 'it returns false'. Refute it at one input. -/
def sumTellsWrong : ChangeSpec := { name := "sumTells", fn := fun _ => fun
  | [d1, d2, d3] => { results := [.lit (.bool false)], args := [d1, d2, d3] }
  | _ => none }
def SumTellsWrongFalsely : Prop := sumTellsRow.holds Try.pinned (OpenSpec.ofChange sumTellsWrong)

/-- 'pedagoguelaw4.SumLines': WHATEVER THE INPUT: true; the input reads as it did. -/
def sumLinesSpec : ChangeSpec := { name := "sumLines", fn := fun _ => fun
  | [d1, d2, d3] => { results := [.lit (.bool true)], args := [d1, d2, d3] }
  | _ => none }
def sumLinesRow : OpenClaim := { program := "ytfmoolnoalomeaa", sum := "dadd9ee085a00578717212afa7c06dfdd7a31d98bbf68134360e70ee7ccfb48a", func := "pedagogue/pedagoguelaw4.SumLines", spec := "sumLines", apart := false }
def SumLinesSaid : Prop := sumLinesRow.holds Try.pinned (OpenSpec.ofChange sumLinesSpec)

/-- ITS FALSE NEIGHBOUR: 'it returns false'. Refute it at one input. -/
def sumLinesWrong : ChangeSpec := { name := "sumLines", fn := fun _ => fun
  | [d1, d2, d3] => { results := [.lit (.bool false)], args := [d1, d2, d3] }
  | _ => none }
def SumLinesWrongFalsely : Prop := sumLinesRow.holds Try.pinned (OpenSpec.ofChange sumLinesWrong)

/-- 'pedagoguelaw2.RoundChance': WHATEVER THE INPUT: true; the input reads as it did. -/
def roundChanceSpec : ChangeSpec := { name := "roundChance", fn := fun _ => fun
  | [d1, d2] => { results := [.lit (.bool true)], args := [d1, d2] }
  | _ => none }
def roundChanceRow : OpenClaim := { program := "ytfmoolnoalomeaa", sum := "dadd9ee085a00578717212afa7c06dfdd7a31d98bbf68134360e70ee7ccfb48a", func := "pedagogue/pedagoguelaw2.RoundChance", spec := "roundChance", apart := false }
def RoundChanceSaid : Prop := roundChanceRow.holds Try.pinned (OpenSpec.ofChange roundChanceSpec)

/-- ITS FALSE NEIGHBOUR: 'it returns false'. Refute it at one input. -/
def roundChanceWrong : ChangeSpec := { name := "roundChance", fn := fun _ => fun
  | [d1, d2] => { results := [.lit (.bool false)], args := [d1, d2] }
  | _ => none }
def RoundChanceWrongFalsely : Prop := roundChanceRow.holds Try.pinned (OpenSpec.ofChange roundChanceWrong)

/-- 'pedagoguelaw2.RoundNear': WHATEVER THE INPUT: true; the input reads as it did. -/
def roundNearSpec : ChangeSpec := { name := "roundNear", fn := fun _ => fun
  | [d1, d2] => { results := [.lit (.bool true)], args := [d1, d2] }
  | _ => none }
def roundNearRow : OpenClaim := { program := "ytfmoolnoalomeaa", sum := "dadd9ee085a00578717212afa7c06dfdd7a31d98bbf68134360e70ee7ccfb48a", func := "pedagogue/pedagoguelaw2.RoundNear", spec := "roundNear", apart := false }
def RoundNearSaid : Prop := roundNearRow.holds Try.pinned (OpenSpec.ofChange roundNearSpec)

/-- ITS FALSE NEIGHBOUR: 'it returns false'. Refute it at one input. -/
def roundNearWrong : ChangeSpec := { name := "roundNear", fn := fun _ => fun
  | [d1, d2] => { results := [.lit (.bool false)], args := [d1, d2] }
  | _ => none }
def RoundNearWrongFalsely : Prop := roundNearRow.holds Try.pinned (OpenSpec.ofChange roundNearWrong)

/-- 'pedagoguelaw2.RoundRises': WHATEVER THE INPUT: true; the input reads as it did. -/
def roundRisesSpec : ChangeSpec := { name := "roundRises", fn := fun _ => fun
  | [d1, d2, d3, d4, d5] => { results := [.lit (.bool true)], args := [d1, d2, d3, d4, d5] }
  | _ => none }
def roundRisesRow : OpenClaim := { program := "ytfmoolnoalomeaa", sum := "dadd9ee085a00578717212afa7c06dfdd7a31d98bbf68134360e70ee7ccfb48a", func := "pedagogue/pedagoguelaw2.RoundRises", spec := "roundRises", apart := false }
def RoundRisesSaid : Prop := roundRisesRow.holds Try.pinned (OpenSpec.ofChange roundRisesSpec)

/-- ITS FALSE NEIGHBOUR: 'it returns false'. Refute it at one input. -/
def roundRisesWrong : ChangeSpec := { name := "roundRises", fn := fun _ => fun
  | [d1, d2, d3, d4, d5] => { results := [.lit (.bool false)], args := [d1, d2, d3, d4, d5] }
  | _ => none }
def RoundRisesWrongFalsely : Prop := roundRisesRow.holds Try.pinned (OpenSpec.ofChange roundRisesWrong)

/-- 'pedagoguelaw2.RoundWhole': WHATEVER THE INPUT: true; the input reads as it did. -/
def roundWholeSpec : ChangeSpec := { name := "roundWhole", fn := fun _ => fun
  | [d1, d2, d3] => { results := [.lit (.bool true)], args := [d1, d2, d3] }
  | _ => none }
def roundWholeRow : OpenClaim := { program := "ytfmoolnoalomeaa", sum := "dadd9ee085a00578717212afa7c06dfdd7a31d98bbf68134360e70ee7ccfb48a", func := "pedagogue/pedagoguelaw2.RoundWhole", spec := "roundWhole", apart := false }
def RoundWholeSaid : Prop := roundWholeRow.holds Try.pinned (OpenSpec.ofChange roundWholeSpec)

/-- ITS FALSE NEIGHBOUR: 'it returns false'. Refute it at one input. -/
def roundWholeWrong : ChangeSpec := { name := "roundWhole", fn := fun _ => fun
  | [d1, d2, d3] => { results := [.lit (.bool false)], args := [d1, d2, d3] }
  | _ => none }
def RoundWholeWrongFalsely : Prop := roundWholeRow.holds Try.pinned (OpenSpec.ofChange roundWholeWrong)

/-- 'pedagoguelaw2.RoundClamps': WHATEVER THE INPUT: true; the input reads as it did. -/
def roundClampsSpec : ChangeSpec := { name := "roundClamps", fn := fun _ => fun
  | [d1, d2, d3] => { results := [.lit (.bool true)], args := [d1, d2, d3] }
  | _ => none }
def roundClampsRow : OpenClaim := { program := "ytfmoolnoalomeaa", sum := "dadd9ee085a00578717212afa7c06dfdd7a31d98bbf68134360e70ee7ccfb48a", func := "pedagogue/pedagoguelaw2.RoundClamps", spec := "roundClamps", apart := false }
def RoundClampsSaid : Prop := roundClampsRow.holds Try.pinned (OpenSpec.ofChange roundClampsSpec)

/-- ITS FALSE NEIGHBOUR: 'it returns false'. Refute it at one input. -/
def roundClampsWrong : ChangeSpec := { name := "roundClamps", fn := fun _ => fun
  | [d1, d2, d3] => { results := [.lit (.bool false)], args := [d1, d2, d3] }
  | _ => none }
def RoundClampsWrongFalsely : Prop := roundClampsRow.holds Try.pinned (OpenSpec.ofChange roundClampsWrong)

/-- 'pedagoguelaw2.RoundAlign': WHATEVER THE INPUT: true; the input reads as it did. -/
def roundAlignSpec : ChangeSpec := { name := "roundAlign", fn := fun _ => fun
  | [d1, d2, d3] => { results := [.lit (.bool true)], args := [d1, d2, d3] }
  | _ => none }
def roundAlignRow : OpenClaim := { program := "ytfmoolnoalomeaa", sum := "dadd9ee085a00578717212afa7c06dfdd7a31d98bbf68134360e70ee7ccfb48a", func := "pedagogue/pedagoguelaw2.RoundAlign", spec := "roundAlign", apart := false }
def RoundAlignSaid : Prop := roundAlignRow.holds Try.pinned (OpenSpec.ofChange roundAlignSpec)

/-- ITS FALSE NEIGHBOUR: 'it returns false'. Refute it at one input. -/
def roundAlignWrong : ChangeSpec := { name := "roundAlign", fn := fun _ => fun
  | [d1, d2, d3] => { results := [.lit (.bool false)], args := [d1, d2, d3] }
  | _ => none }
def RoundAlignWrongFalsely : Prop := roundAlignRow.holds Try.pinned (OpenSpec.ofChange roundAlignWrong)

/-- 'pedagoguelaw2.RoundBits': WHATEVER THE INPUT: true; the input reads as it did. -/
def roundBitsSpec : ChangeSpec := { name := "roundBits", fn := fun _ => fun
  | [d] => { results := [.lit (.bool true)], args := [d] }
  | _ => none }
def roundBitsRow : OpenClaim := { program := "ytfmoolnoalomeaa", sum := "dadd9ee085a00578717212afa7c06dfdd7a31d98bbf68134360e70ee7ccfb48a", func := "pedagogue/pedagoguelaw2.RoundBits", spec := "roundBits", apart := false }
def RoundBitsSaid : Prop := roundBitsRow.holds Try.pinned (OpenSpec.ofChange roundBitsSpec)

/-- ITS FALSE NEIGHBOUR: 'it returns false'. Refute it at one input. -/
def roundBitsWrong : ChangeSpec := { name := "roundBits", fn := fun _ => fun
  | [d] => { results := [.lit (.bool false)], args := [d] }
  | _ => none }
def RoundBitsWrongFalsely : Prop := roundBitsRow.holds Try.pinned (OpenSpec.ofChange roundBitsWrong)

/-- 'pedagoguelaw2.RoundForms': WHATEVER THE INPUT: true; the input reads as it did. -/
def roundFormsSpec : ChangeSpec := { name := "roundForms", fn := fun _ => fun
  | [d1, d2, d3, d4, d5, d6] => { results := [.lit (.bool true)], args := [d1, d2, d3, d4, d5, d6] }
  | _ => none }
def roundFormsRow : OpenClaim := { program := "ytfmoolnoalomeaa", sum := "dadd9ee085a00578717212afa7c06dfdd7a31d98bbf68134360e70ee7ccfb48a", func := "pedagogue/pedagoguelaw2.RoundForms", spec := "roundForms", apart := false }
def RoundFormsSaid : Prop := roundFormsRow.holds Try.pinned (OpenSpec.ofChange roundFormsSpec)

/-- ITS FALSE NEIGHBOUR: 'it returns false'. Refute it at one input. -/
def roundFormsWrong : ChangeSpec := { name := "roundForms", fn := fun _ => fun
  | [d1, d2, d3, d4, d5, d6] => { results := [.lit (.bool false)], args := [d1, d2, d3, d4, d5, d6] }
  | _ => none }
def RoundFormsWrongFalsely : Prop := roundFormsRow.holds Try.pinned (OpenSpec.ofChange roundFormsWrong)

/- THE SECOND FORM. 'bulk': how many values and letters a reading holds, each counted each time it is reached (what is shared counts as often as it is met; a slice's spare places count too). A statement '..UptoSaid' is the law's where the arguments, and the package variables that the reading takes, are together of bulk at most 1048576: NARROWER than '..Said'. Prove '..Said' where nothing that the law and all that it calls make is longer than what came in: it says more and counts as full. Else prove '..UptoSaid'. A law counts once. -/
mutual
def uptoBulk {H : Type} : DataW H → Nat
  | .lit (.string bytes) => bytes.length + 1
  | .lit _ => 1
  | .nil => 1
  | .ptr d => uptoBulk d + 1
  | .slice elems spare => uptoBulkAll elems + uptoBulkAll spare + 1
  | .agg parts => uptoBulkAll parts + 1
  | .iface _ d => uptoBulk d + 1
  | .map entries => uptoBulkEntries entries + 1
  | .held _ => 1
def uptoBulkAll {H : Type} : List (DataW H) → Nat
  | [] => 0
  | d :: r => uptoBulk d + uptoBulkAll r
def uptoBulkEntries {H : Type} : List (Lit × DataW H) → Nat
  | [] => 0
  | x :: r => uptoBulkEntry x + uptoBulkEntries r
def uptoBulkEntry {H : Type} : Lit × DataW H → Nat
  | (.string bytes, d) => bytes.length + uptoBulk d + 1
  | (_, d) => uptoBulk d + 1
 end
def uptoSmall : (H : Type) → List (DataW H) → Bool := fun _ ds => decide (uptoBulkAll ds ≤ 1048576)
def OpenSpec.upto (s : _root_.Go.ChangeSpec) : _root_.Go.OpenSpec := { _root_.Go.OpenSpec.ofChange s with cond := some uptoSmall }

/-- 'pedagoguelaw4.SumReckons', WHERE WHAT IT READS IS OF BULK AT MOST 1048576: true; the input reads as it did. -/
def sumReckonsUptoRow : OpenClaim := { program := "ytfmoolnoalomeaa", sum := "dadd9ee085a00578717212afa7c06dfdd7a31d98bbf68134360e70ee7ccfb48a", func := "pedagogue/pedagoguelaw4.SumReckons", spec := "sumReckons", apart := false, narrowed := true }
def SumReckonsUptoSaid : Prop := sumReckonsUptoRow.holds Try.pinned (OpenSpec.upto sumReckonsSpec)

/-- 'pedagoguelaw4.SumTells', WHERE WHAT IT READS IS OF BULK AT MOST 1048576: true; the input reads as it did. -/
def sumTellsUptoRow : OpenClaim := { program := "ytfmoolnoalomeaa", sum := "dadd9ee085a00578717212afa7c06dfdd7a31d98bbf68134360e70ee7ccfb48a", func := "pedagogue/pedagoguelaw4.SumTells", spec := "sumTells", apart := false, narrowed := true }
def SumTellsUptoSaid : Prop := sumTellsUptoRow.holds Try.pinned (OpenSpec.upto sumTellsSpec)

/-- 'pedagoguelaw4.SumLines', WHERE WHAT IT READS IS OF BULK AT MOST 1048576: true; the input reads as it did. -/
def sumLinesUptoRow : OpenClaim := { program := "ytfmoolnoalomeaa", sum := "dadd9ee085a00578717212afa7c06dfdd7a31d98bbf68134360e70ee7ccfb48a", func := "pedagogue/pedagoguelaw4.SumLines", spec := "sumLines", apart := false, narrowed := true }
def SumLinesUptoSaid : Prop := sumLinesUptoRow.holds Try.pinned (OpenSpec.upto sumLinesSpec)

/-- 'pedagoguelaw2.RoundChance', WHERE WHAT IT READS IS OF BULK AT MOST 1048576: true; the input reads as it did. -/
def roundChanceUptoRow : OpenClaim := { program := "ytfmoolnoalomeaa", sum := "dadd9ee085a00578717212afa7c06dfdd7a31d98bbf68134360e70ee7ccfb48a", func := "pedagogue/pedagoguelaw2.RoundChance", spec := "roundChance", apart := false, narrowed := true }
def RoundChanceUptoSaid : Prop := roundChanceUptoRow.holds Try.pinned (OpenSpec.upto roundChanceSpec)

/-- 'pedagoguelaw2.RoundNear', WHERE WHAT IT READS IS OF BULK AT MOST 1048576: true; the input reads as it did. -/
def roundNearUptoRow : OpenClaim := { program := "ytfmoolnoalomeaa", sum := "dadd9ee085a00578717212afa7c06dfdd7a31d98bbf68134360e70ee7ccfb48a", func := "pedagogue/pedagoguelaw2.RoundNear", spec := "roundNear", apart := false, narrowed := true }
def RoundNearUptoSaid : Prop := roundNearUptoRow.holds Try.pinned (OpenSpec.upto roundNearSpec)

/-- 'pedagoguelaw2.RoundRises', WHERE WHAT IT READS IS OF BULK AT MOST 1048576: true; the input reads as it did. -/
def roundRisesUptoRow : OpenClaim := { program := "ytfmoolnoalomeaa", sum := "dadd9ee085a00578717212afa7c06dfdd7a31d98bbf68134360e70ee7ccfb48a", func := "pedagogue/pedagoguelaw2.RoundRises", spec := "roundRises", apart := false, narrowed := true }
def RoundRisesUptoSaid : Prop := roundRisesUptoRow.holds Try.pinned (OpenSpec.upto roundRisesSpec)

/-- 'pedagoguelaw2.RoundWhole', WHERE WHAT IT READS IS OF BULK AT MOST 1048576: true; the input reads as it did. -/
def roundWholeUptoRow : OpenClaim := { program := "ytfmoolnoalomeaa", sum := "dadd9ee085a00578717212afa7c06dfdd7a31d98bbf68134360e70ee7ccfb48a", func := "pedagogue/pedagoguelaw2.RoundWhole", spec := "roundWhole", apart := false, narrowed := true }
def RoundWholeUptoSaid : Prop := roundWholeUptoRow.holds Try.pinned (OpenSpec.upto roundWholeSpec)

/-- 'pedagoguelaw2.RoundClamps', WHERE WHAT IT READS IS OF BULK AT MOST 1048576: true; the input reads as it did. -/
def roundClampsUptoRow : OpenClaim := { program := "ytfmoolnoalomeaa", sum := "dadd9ee085a00578717212afa7c06dfdd7a31d98bbf68134360e70ee7ccfb48a", func := "pedagogue/pedagoguelaw2.RoundClamps", spec := "roundClamps", apart := false, narrowed := true }
def RoundClampsUptoSaid : Prop := roundClampsUptoRow.holds Try.pinned (OpenSpec.upto roundClampsSpec)

/-- 'pedagoguelaw2.RoundAlign', WHERE WHAT IT READS IS OF BULK AT MOST 1048576: true; the input reads as it did. -/
def roundAlignUptoRow : OpenClaim := { program := "ytfmoolnoalomeaa", sum := "dadd9ee085a00578717212afa7c06dfdd7a31d98bbf68134360e70ee7ccfb48a", func := "pedagogue/pedagoguelaw2.RoundAlign", spec := "roundAlign", apart := false, narrowed := true }
def RoundAlignUptoSaid : Prop := roundAlignUptoRow.holds Try.pinned (OpenSpec.upto roundAlignSpec)

/-- 'pedagoguelaw2.RoundBits', WHERE WHAT IT READS IS OF BULK AT MOST 1048576: true; the input reads as it did. -/
def roundBitsUptoRow : OpenClaim := { program := "ytfmoolnoalomeaa", sum := "dadd9ee085a00578717212afa7c06dfdd7a31d98bbf68134360e70ee7ccfb48a", func := "pedagogue/pedagoguelaw2.RoundBits", spec := "roundBits", apart := false, narrowed := true }
def RoundBitsUptoSaid : Prop := roundBitsUptoRow.holds Try.pinned (OpenSpec.upto roundBitsSpec)

/-- 'pedagoguelaw2.RoundForms', WHERE WHAT IT READS IS OF BULK AT MOST 1048576: true; the input reads as it did. -/
def roundFormsUptoRow : OpenClaim := { program := "ytfmoolnoalomeaa", sum := "dadd9ee085a00578717212afa7c06dfdd7a31d98bbf68134360e70ee7ccfb48a", func := "pedagogue/pedagoguelaw2.RoundForms", spec := "roundForms", apart := false, narrowed := true }
def RoundFormsUptoSaid : Prop := roundFormsUptoRow.holds Try.pinned (OpenSpec.upto roundFormsSpec)

end Rows
end Go.Proofs.Ytfmoolnoalomeaa
