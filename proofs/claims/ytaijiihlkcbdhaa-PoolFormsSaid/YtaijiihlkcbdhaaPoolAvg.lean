/-
  The walk of Avg where it refuses.
-/
import Derived.Test.YtaijiihlkcbdhaaPoolAvgEach
namespace Go.Proofs.Ytaijiihlkcbdhaa
open Go.RowKit
set_option linter.unusedVariables false
set_option linter.unusedSimpArgs false
attribute [local go_sem ↓] Go.wp_at_zero Go.wp_at_succ
theorem avg_arg (a : Option Addr) (l c : Nat) (d : List Int) (e : Int) (b : Option Addr) (m k0 : Nat) (z : List Int) (k s : Int) (w : World) (h0 : RowAt .i64 w a l d) (h1 : RowAt .i8 w b m z) (ht : ¬ T.may d e z) :
    Calls Try.prog 11 #[tensor a l c e b m k0, .int .i64 k, .int .i64 s] w (GivesV (.tuple #[tensor none 0 0 0 none 0 0, .int .i64 1]) w) := by
  have M := Lib.hid (fun w h0 h1 => (decide_eq_false ht ▸ tmay_any a l c d e b m k0 z w h0 h1 : Calls _ _ _ _ (GivesV (.bool false) w)))
  have H0 := Lib.hid h0
  have H1 := Lib.hid h1
  clear h0 h1 ht
  unfold tensor
  unfold tensor at M
  go_enter Try.func11, Try.ntmps11
  go_wp2_with fail
  refine (M.out _ ((H0.out.below (below_alloc _ _)).below (below_alloc _ _)) ((H1.out.below (below_alloc _ _)).below (below_alloc _ _))).mono ?_
  rintro e' w2 ⟨rfl, hb⟩
  obtain ⟨z0, z1, z2, y0, y1, y2⟩ := newTensor (blk_below (heap_alloc_new (w.alloc _) _) hb)
  rw [World.size_alloc] at z0 z1 z2 y0 y1 y2
  have BB := Lib.hid (((below_alloc w _).step (below_alloc _ _)).step hb)
  clear hb M
  go_wp2
  refine bodyPost_ret (v := .tuple #[.agg #[.slice none 0 0, .int .i64 0, .slice none 0 0], .int .i64 1]) ?_ rfl ⟨rfl, ((BB.out.setCell (by show w.heap.size ≤ w.heap.size + 1; omega) _).setCell (by show w.heap.size ≤ w.heap.size + 1; omega) _).setCell (by show w.heap.size ≤ w.heap.size + 1; omega) _⟩
  simp [results, Try.results11, go_sem, z0, z1, z2]
theorem avg_shape (a : Option Addr) (l c : Nat) (d : List Int) (e : Int) (b : Option Addr) (m k0 : Nat) (z : List Int) (k s : Int) (w : World) (h0 : RowAt .i64 w a l d) (h1 : RowAt .i8 w b m z) (ht : T.may d e z) (hk : ¬ (l = 4 ∧ 0 < outW (d.getD 2 0) k s 0 ∧ 0 < outW (d.getD 3 0) k s 0)) :
    Calls Try.prog 11 #[tensor a l c e b m k0, .int .i64 k, .int .i64 s] w (GivesV (.tuple #[tensor none 0 0 0 none 0 0, .int .i64 2]) w) := by
  have M := Lib.hid (fun w h0 h1 => (decide_eq_true ht ▸ tmay_any a l c d e b m k0 z w h0 h1 : Calls _ _ _ _ (GivesV (.bool true) w)))
  have OV := Lib.hid (fun w h => over_bad a l c d k s w h hk)
  have H0 := Lib.hid h0
  have H1 := Lib.hid h1
  clear h0 h1 ht hk
  unfold tensor
  unfold tensor at M
  go_enter Try.func11, Try.ntmps11
  go_wp2_with fail
  refine (M.out _ ((H0.out.below (below_alloc _ _)).below (below_alloc _ _)) ((H1.out.below (below_alloc _ _)).below (below_alloc _ _))).mono ?_
  rintro e' w2 ⟨rfl, hb⟩
  have hx := newTensor (blk_below (blk_alloc (heap_alloc_new w _) _) hb)
  obtain ⟨x0, x1, x2, _, _, _⟩ := hx
  have HZ := Lib.hid (blk_below (heap_alloc_new (w.alloc _) _) hb)
  rw [World.size_alloc] at HZ
  have BB := Lib.hid (((below_alloc w _).step (below_alloc _ _)).step hb)
  have H2 := Lib.hid (((H0.out.below (below_alloc _ _)).below (below_alloc _ _)).below hb)
  clear hb M
  go_wp2_with fail
  refine (OV.out _ H2.out).mono ?_
  rintro e' w3 ⟨v0, v1, v2, v3, v4, v5, rfl, hb⟩
  have HZ3 := Lib.hid (blk_below HZ.out hb)
  obtain ⟨z0, z1, z2, y0, y1, y2⟩ := newTensor HZ3.out
  have B3 := Lib.hid (BB.out.step hb)
  have hsz : w.heap.size + 1 < w3.heap.size := Nat.lt_of_lt_of_le (lt_of_block HZ.out) hb.size
  clear hb x0 x1 x2 HZ H0 H1 H2 OV BB
  go_wp2
  refine bodyPost_ret (v := .tuple #[.agg #[.slice none 0 0, .int .i64 0, .slice none 0 0], .int .i64 2]) ?_ rfl ⟨rfl, ?_⟩
  · obtain ⟨r0, r1, r2, _, _, _⟩ := newTensor (blk_alloc (store3 (a := .slice none 0 0) (b := .int .i64 0) (c := .slice none 0 0) HZ3.out) (Obj.cells #[.int .i64 v0, .int .i64 v1, .int .i64 v2, .int .i64 v3, .int .i64 v4, .int .i64 v5] 54))
    simp [results, Try.results11, go_sem, r0, r1, r2]
  · have hz : w.heap.size ≤ w.heap.size + 1 := by omega
    exact (((B3.out.setCell hz _).setCell hz _).setCell hz _).step (below_alloc _ _)
end Go.Proofs.Ytaijiihlkcbdhaa
