/-
  A tensor that comes in as an argument.
-/
import Derived.Test.YtaijiihlkcbdhaaPoolBase
import Derived.Lib.SmallJoins
import Derived.SizedLaws
namespace Go.Proofs.Ytaijiihlkcbdhaa
open Go.RowKit Go.WideShapes Go.ChangeShapes Go.Joins
set_option linter.unusedVariables false
section
variable {H : Type} {enc : TypeId × Value → H}
/-- A row within an argument. -/
theorem row_of {P : Program} {W : World} {td te : TypeId} {k : IntKind} {B n : Nat} {c : Value} {y : DataW H × List MemPlace} (hu : P.underlying td = some (.slice te)) (he : P.underlying te = some (.int k)) (hc : P.cellsOf te = 1) (hb : P.bytesOf te = B)
    (g : DataW.trod enc P W 0 (fun _ => true) true n td [c] = some y) (hs : ∀ x ∈ y.1.weights P td, x ≤ 140737488351232) : ∃ a len cap zs, c = .slice a len cap ∧ IsRow k B W a len cap zs := by
  rcases open_ints hu he hc g with ⟨hcs, _⟩ | ⟨x, l, cp, zs, hcs, _, hl, hm, hz, hx, hcell, hwz⟩
  · simp at hcs
    exact ⟨none, 0, 0, [], hcs, .inl ⟨rfl, rfl, rfl, rfl⟩⟩
  · simp at hcs
    have hd : y.1 = .slice (lits k (zs.take l)) (lits k (zs.drop l)) := congrArg Prod.fst hx
    have hz' : zs.length = cp := by simpa using hz
    have h2 := hs ((lits k (zs.take l) : List (DataW H)).length * B + (lits k (zs.drop l) : List (DataW H)).length * B) (by rw [hd, ← Nat.add_mul]; simp [DataW.weights, hu, hb])
    simp only [lits, List.length_map, List.length_take, List.length_drop] at h2
    refine ⟨_, _, _, zs, hcs, .inr ⟨_, rfl, hl, ?_, hz', hcell, hwz⟩⟩
    have e1 : min l zs.length + (zs.length - l) = cp := by omega
    rw [← Nat.add_mul, e1] at h2
    exact h2
theorem cells_int : Try.prog.cellsOf 3 = 1 := by kernel_rfl
theorem cells_int8 : Try.prog.cellsOf 37 = 1 := by kernel_rfl
theorem bytes_int : Try.prog.bytesOf 3 = 8 := by kernel_rfl
theorem bytes_int8 : Try.prog.bytesOf 37 = 1 := by kernel_rfl
theorem cells_tensor : Try.prog.cellsOf 25 = 3 := by kernel_rfl
theorem open_tensor {r : Reach} {b0 : Nat} {W : World} {v : Value} {d : DataW H} {p : List MemPlace} (hv : Value.okWide Try.prog W r b0 25 v) (h : DataW.Trod enc Try.prog W 0 (fun _ => true) true 25 v d p) (hs : ∀ x ∈ d.weights Try.prog 25, x ≤ reachBytes) :
    ∃ a l c ds e b m k zs, v = tensor a l c e b m k ∧ IsRow .i64 8 W a l c ds ∧ IsRow .i8 1 W b m k zs ∧ (Lit.int .i64 e).wf = true := by
  obtain ⟨c0, c1, c2, y0, y1, y2, n, rfl, rfl, rfl, g0, g1, g2⟩ := open_agg3 Try.underlying25 (by kernel_rfl) cells_tensor hv h
  simp only [DataW.weights, Try.underlying25, List.map_cons, List.map_nil, DataW.weightsEach, List.append_nil, List.mem_append] at hs
  obtain ⟨a, l, c, ds, rfl, h0⟩ := row_of Try.underlying22 Try.underlying3 cells_int bytes_int g0 (fun x hx => hs x (Or.inl hx))
  obtain ⟨b, m, k, zs, rfl, h2⟩ := row_of Try.underlying23 Try.underlying37 cells_int8 bytes_int8 g2 (fun x hx => hs x (Or.inr (Or.inr hx)))
  obtain ⟨e, he, _, hw⟩ := DataW.trod_int Try.underlying3 g1
  simp at he
  exact ⟨a, l, c, ds, e, b, m, k, zs, by rw [he]; rfl, h0, h2, hw⟩
end
end Go.Proofs.Ytaijiihlkcbdhaa
