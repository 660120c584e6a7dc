/-
  A tensor like the one that came, its numbers a row of the call's own.
-/
import Derived.Test.YtaijiihlkcbdhaaPoolTools
import Derived.Deep.OwnRows
import Derived.Deep.DeepCutAuto
namespace Go.Proofs.Ytaijiihlkcbdhaa
open Go.RowKit
set_option linter.unusedVariables false
theorem infoI8 : (Try.prog.info? 37).map (fun i => (i.zero, i.size, i.bytes)) = some (some (.int .i8 0), 1, 1) := by kernel_rfl
/-- A tensor like the one that came, its numbers a row of the call's own. -/
def TOut (a : Option Addr) (l c : Nat) (e : Int) (m : Nat) (w4 : World) (v : Value) (wx : World) : Prop := ∃ bo bd, v = .pointer (some ⟨bo, 0, none⟩) ∧ wx.heap[bo]? = some (.cells #[.slice a l c, .int .i64 e, .slice (some ⟨bd, 0, none⟩) m m] 25 (0, 0)) ∧
  wx.ownsRow w4.heap.size 37 1 (.slice (some ⟨bd, 0, none⟩) m m) m (madeCells #[Value.int IntKind.i8 0] m).toList ∧ Below w4.heap.size w4 wx ∧ w4.heap.size ≤ bo ∧ bd ≠ bo
theorem TOut.one (a : Option Addr) (l c : Nat) (e : Int) (m : Nat) (w4 : World) (hm : m ≤ 140737488351232) :
    TOut a l c e m w4 (.pointer (some ⟨w4.heap.size, 0, none⟩)) ((w4.alloc (.cells #[.slice a l c, .int .i64 e, .slice (some ⟨w4.heap.size + 1, 0, none⟩) m m] 25)).alloc (.cells (madeCells #[Value.int IntKind.i8 0] m) 37)).drew := by
  have h := World.ownsRow_lit (base := w4.heap.size) (e := 37) (size := 1) (w4.alloc (.cells #[.slice a l c, .int .i64 e, .slice (some ⟨w4.heap.size + 1, 0, none⟩) m m] 25)) (madeCells #[Value.int IntKind.i8 0] m) m (by rw [World.size_alloc]; omega) (by unfold maxLen; omega) (by rw [size_madeCells]; omega)
  rw [World.size_alloc] at h
  exact ⟨_, _, rfl, blk_alloc (heap_alloc_new w4 _) _, h.drew, ((below_alloc w4 _).step (below_alloc _ _)).draws 1, Nat.le_refl _, by omega⟩
theorem TOut.two (a : Option Addr) (l c : Nat) (e : Int) (m : Nat) (w4 : World) (hm : m ≤ 140737488351232) :
    TOut a l c e m w4 (.pointer (some ⟨w4.heap.size + 1, 0, none⟩)) ((w4.alloc (.cells (madeCells #[Value.int IntKind.i8 0] m) 37)).alloc (.cells #[.slice a l c, .int .i64 e, .slice (some ⟨w4.heap.size, 0, none⟩) m m] 25)).drew := by
  have h := World.ownsRow_lit (base := w4.heap.size) (e := 37) (size := 1) w4 (madeCells #[Value.int IntKind.i8 0] m) m (Nat.le_refl _) (by unfold maxLen; omega) (by rw [size_madeCells]; omega)
  have hn := heap_alloc_new (w4.alloc (.cells (madeCells #[Value.int IntKind.i8 0] m) 37)) (.cells #[.slice a l c, .int .i64 e, .slice (some ⟨w4.heap.size, 0, none⟩) m m] 25)
  rw [World.size_alloc] at hn
  exact ⟨_, _, rfl, hn, (h.alloc _).drew, ((below_alloc w4 _).step (below_alloc _ _)).draws 1, by omega, by omega⟩
theorem getD32 {z : List Int} (h : ∀ x ∈ z, (Lit.int .i32 x).wf = true) (i : Nat) : IntKind.i32.wrap (z.getD i 0) = z.getD i 0 := by
  apply IntWalk.i32_in
  by_cases hi : i < z.length
  · have := h _ (show z.getD i 0 ∈ z by simp [List.getD, List.getElem?_eq_getElem hi])
    generalize z.getD i 0 = v at *
    simp [Lit.wf, IntKind.min, IntKind.max, IntKind.signed, IntKind.bits] at this
    omega
  · rw [show z.getD i 0 = 0 by simp [List.getD, List.getElem?_eq_none (Nat.le_of_not_lt hi)]]
    omega
end Go.Proofs.Ytaijiihlkcbdhaa
