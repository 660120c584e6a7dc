/-
  Windows over the planes of a tensor.
-/
import Derived.Test.YtaijiihlkcbdhaaPoolBase
import Derived.Test.YtaijiihlkcbdhaaPlaceWindow
import Derived.Test.YtaijiihlkcbdhaaOwn
import Derived.Deep.RegionHeld3
import Derived.Deep.DrawnRows
import Derived.Deep.Cut
import Derived.RegionTactic
import Derived.ChangeAlike
import Derived.BigRegion
import Derived.IntWalk
namespace Go.Proofs.Ytaijiihlkcbdhaa
open Go.RowKit
set_option linter.unusedVariables false
attribute [local go_sem ↓] Go.wp_at_zero Go.wp_at_succ
def windows (r c k s p q : Int) : Value := .agg #[.int .i64 r, .int .i64 c, .int .i64 k, .int .i64 s, .int .i64 p, .int .i64 q]
theorem cells6 (w : World) (a b c d e f : Value) (t : TypeId) (fr : Nat × Nat) : (w.alloc (.cells #[a, b, c, d, e, f] t fr)).cell? ⟨w.heap.size, 0, none⟩ = some a ∧ (w.alloc (.cells #[a, b, c, d, e, f] t fr)).cell? ⟨w.heap.size, 1, none⟩ = some b ∧ (w.alloc (.cells #[a, b, c, d, e, f] t fr)).cell? ⟨w.heap.size, 2, none⟩ = some c ∧ (w.alloc (.cells #[a, b, c, d, e, f] t fr)).cell? ⟨w.heap.size, 3, none⟩ = some d ∧ (w.alloc (.cells #[a, b, c, d, e, f] t fr)).cell? ⟨w.heap.size, 4, none⟩ = some e ∧ (w.alloc (.cells #[a, b, c, d, e, f] t fr)).cell? ⟨w.heap.size, 5, none⟩ = some f := by
  have h : ∀ j : Nat, j < 6 → (w.alloc (Obj.cells #[a, b, c, d, e, f] t fr)).cell? ⟨w.heap.size, j, none⟩ = #[a, b, c, d, e, f][j]? := fun j hj => by
    have := heap_alloc_new w (Obj.cells #[a, b, c, d, e, f] t fr)
    unfold World.cell?
    simp only [this]
    rfl
  exact ⟨h 0 (by omega), h 1 (by omega), h 2 (by omega), h 3 (by omega), h 4 (by omega), h 5 (by omega)⟩
theorem over_no (a : Option Addr) (l c : Nat) (k s : Int) (w : World) (hl : l ≤ 140737488351232) (h : l ≠ 4) :
    Calls Try.prog 25 #[.slice a l c, .int .i64 k, .int .i64 s] w (GivesV (.tuple #[windows 0 0 0 0 0 0, .bool false]) w) := by
  have hd : ((l : Int) != 4) = true := by rw [bne_iff_ne]; omega
  unfold windows
  go_enter Try.func25, Try.ntmps25
  go_wp2
  refine bodyPost_ret (v := .tuple #[.agg #[.int .i64 0, .int .i64 0, .int .i64 0, .int .i64 0, .int .i64 0, .int .i64 0], .bool false]) ?_ rfl ⟨rfl, (below_alloc w _)⟩
  simp [results, Try.results25, go_sem]
set_option maxHeartbeats 4000000 in
theorem over_yes (a : Option Addr) (c : Nat) (d : List Int) (k s : Int) (w : World) (h : RowAt .i64 w a 4 d) :
    Calls Try.prog 25 #[.slice a 4 c, .int .i64 k, .int .i64 s] w (GivesV (.tuple #[windows (d.getD 2 0) (d.getD 3 0) k s (outW (d.getD 2 0) k s 0) (outW (d.getD 3 0) k s 0), .bool (decide (0 < outW (d.getD 2 0) k s 0) && decide (0 < outW (d.getD 3 0) k s 0))]) w) := by
  obtain ⟨b, off, rfl, hc⟩ := h.cells (by omega)
  have f2 := hc 2 (by omega)
  have f3 := hc 3 (by omega)
  have n2 := World.new_ne w _ f2
  have n2b : b ≠ w.heap.size + 1 := by have := World.block_lt_of_cell? w _ f2; simp at this; omega
  have O2 := Lib.hid (fun w => out_any (d.getD 2 0) k s 0 w)
  have O3 := Lib.hid (fun w => out_any (d.getD 3 0) k s 0 w)
  clear h hc
  generalize d.getD 2 0 = d2 at *
  generalize d.getD 3 0 = d3 at *
  generalize outW d2 k s 0 = P at *
  generalize outW d3 k s 0 = Q at *
  obtain ⟨B, hB⟩ : ∃ B, decide (0 < P) = B := ⟨_, rfl⟩
  obtain ⟨C, hC⟩ : ∃ C, decide (0 < Q) = C := ⟨_, rfl⟩
  rw [hB, hC]
  have HB := Lib.hid hB
  have HC := Lib.hid hC
  clear hB hC
  unfold windows
  go_enter Try.func25, Try.ntmps25
  go_wp2
  go_region_held3 (fun w' => w'.cell? ⟨b, off + 2, none⟩ = some (.int .i64 d2) ∧ w'.cell? ⟨b, off + 3, none⟩ = some (.int .i64 d3)) (go_keep) (fail)
  go_wp2
  go_region_held3 (fun w' => w'.cell? ⟨w.heap.size + 1, 0, none⟩ = some (.int .i64 d2) ∧ w'.cell? ⟨w.heap.size + 1, 1, none⟩ = some (.int .i64 d3)) (go_keep)
    (first | (go_at_call 45; ((with_reducible refine (O2.out _).mono ?_); rintro e w' ⟨rfl, rfl⟩)) | (go_at_call 45; ((with_reducible refine (O3.out _).mono ?_); rintro e w' ⟨rfl, rfl⟩)))
  cases B
  · have hB := HB.out
    go_wp2
    go_region
    go_wp2
    refine bodyPost_ret (v := .tuple #[.agg #[.int .i64 d2, .int .i64 d3, .int .i64 k, .int .i64 s, .int .i64 P, .int .i64 Q], .bool false]) ?_ rfl ⟨rfl, ?_⟩
    · simp [results, Try.results25, go_sem]
    · exact (((((below_alloc w _).step (below_alloc _ _)).draws 1).draws 1).draws 1)
  · cases C
    · have hB := HB.out
      have hC := HC.out
      go_wp2
      go_region
      go_wp2
      refine bodyPost_ret (v := .tuple #[.agg #[.int .i64 d2, .int .i64 d3, .int .i64 k, .int .i64 s, .int .i64 P, .int .i64 Q], .bool false]) ?_ rfl ⟨rfl, ?_⟩
      · simp [results, Try.results25, go_sem]
      · exact (((((below_alloc w _).step (below_alloc _ _)).draws 1).draws 1).draws 1)
    · have hB := HB.out
      have hC := HC.out
      go_wp2
      go_region
      go_wp2
      refine bodyPost_ret (v := .tuple #[.agg #[.int .i64 d2, .int .i64 d3, .int .i64 k, .int .i64 s, .int .i64 P, .int .i64 Q], .bool true]) ?_ rfl ⟨rfl, ?_⟩
      · simp [results, Try.results25, go_sem]
      · exact (((((below_alloc w _).step (below_alloc _ _)).draws 1).draws 1).draws 1)
end Go.Proofs.Ytaijiihlkcbdhaa
