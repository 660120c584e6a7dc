/-
  The walk of the reference's Max.
-/
import Derived.Test.YtaijiihlkcbdhaaRefMaxPlain
namespace Go.Proofs.Ytaijiihlkcbdhaa
open Go.RowKit
set_option linter.unusedVariables false
attribute [local go_sem ↓] Go.wp_at_zero Go.wp_at_succ
set_option maxHeartbeats 4000000 in
theorem refMax_arg (a : Option Addr) (l c : Nat) (d : List Int) (e : Int) (b : Option Addr) (m k0 : Nat) (z : List Int) (k s : Int) (w : World) (h0 : RowAt .i64 w a l d) (h1 : RowAt .i8 w b m z) (ht : ¬ T.may d e z) :
    Calls Try.prog 19 #[tensor a l c e b m k0, .int .i64 k, .int .i64 s] w (GivesT [] 0 [] [] 1 w) := by
  have M := Lib.hid (fun g w hg h0 h1 => (decide_eq_false ht ▸ refMayOne a l c d e b m k0 z g w hg h0 h1 : Calls _ _ _ _ (GivesV (.bool false) w)))
  have H0 := Lib.hid h0
  have H1 := Lib.hid h1
  clear h0 h1 ht
  unfold tensor
  go_enter Try.func19, Try.ntmps19
  go_wp2_with fail
  refine (M.out _ _ (by
    have := heap_alloc_new ((w.alloc (Obj.cells #[.slice a l c, .int .i64 e, .slice b m k0] 25)).alloc (Obj.cells #[.slice none 0 0, .int .i64 0, .slice none 0 0] 25)) (Obj.cells #[.slice a l c, .int .i64 e, .slice b m k0] 25)
    rw [World.size_alloc, World.size_alloc] at this
    exact this) (((H0.out.below (below_alloc _ _)).below (below_alloc _ _)).below (below_alloc _ _)) (((H1.out.below (below_alloc _ _)).below (below_alloc _ _)).below (below_alloc _ _))).mono ?_
  rintro e' w4 ⟨rfl, hb⟩
  have HR4 := Lib.hid (blk_below (blk_alloc (heap_alloc_new (w.alloc _) _) _) hb)
  rw [World.size_alloc] at HR4
  have B4 := Lib.hid ((((below_alloc w _).step (below_alloc _ _)).step (below_alloc _ _)).step hb)
  obtain ⟨r0, r1, r2, r3, r4, r5⟩ := newTensor HR4.out
  clear hb M
  go_wp2_with fail
  refine bodyPost_ret (v := .tuple #[.agg #[.slice none 0 0, .int .i64 0, .slice none 0 0], .slice none 0 0, .int .i64 1]) ?_ rfl ?_
  · obtain ⟨t0, t1, t2, _, _, _⟩ := newTensor (store3 (a := .slice none 0 0) (b := .int .i64 0) (c := .slice none 0 0) HR4.out)
    simp [results, Try.results19, go_sem, t0, t1, t2]
  · exact ⟨_, _, _, _, _, _, _, _, _, rfl, RowAt.zero _ _ _, RowAt.zero _ _ _, RowAt.zero _ _ _, ((B4.out.setCell (by show w.heap.size ≤ w.heap.size + 1; omega) _).setCell (by show w.heap.size ≤ w.heap.size + 1; omega) _).setCell (by show w.heap.size ≤ w.heap.size + 1; omega) _⟩
set_option maxHeartbeats 4000000 in
theorem refMax_shape (a : Option Addr) (l c : Nat) (d : List Int) (e : Int) (b : Option Addr) (m k0 : Nat) (z : List Int) (k s : Int) (w : World) (h0 : RowAt .i64 w a l d) (h1 : RowAt .i8 w b m z) (ht : T.may d e z) (ho : ¬ overOk d k s) :
    Calls Try.prog 19 #[tensor a l c e b m k0, .int .i64 k, .int .i64 s] w (GivesT [] 0 [] [] 2 w) := by
  have M := Lib.hid (fun g w hg h0 h1 => (decide_eq_true ht ▸ refMayOne a l c d e b m k0 z g w hg h0 h1 : Calls _ _ _ _ (GivesV (.bool true) w)))
  have PO := Lib.hid (show ∀ w, RowAt .i64 w a l d → Calls Try.prog 39 #[.slice a l c, .int .i64 k, .int .i64 s] w (fun r w' => ∃ v, r = .returned (.tuple #[v, .bool false]) ∧ Below w.heap.size w w') from fun w h => by
    by_cases hl : l = 4
    · subst hl
      refine (refPooled_yes a c d k s w h).mono ?_
      rintro r w' ⟨g, rfl, _, hb⟩
      rw [decide_eq_false (fun hh => ho ⟨h.len_eq, hh.1, hh.2⟩)]
      exact ⟨_, rfl, hb⟩
    · refine (refPooled_no a l c d k s w h hl).mono ?_
      rintro r w' ⟨rfl, rfl⟩
      exact ⟨_, rfl, Below.refl _ _⟩)
  have H0 := Lib.hid h0
  have H1 := Lib.hid h1
  clear h0 h1 ht ho
  unfold tensor
  go_enter Try.func19, Try.ntmps19
  go_wp2_with fail
  refine (M.out _ _ (by
    have := heap_alloc_new ((w.alloc (Obj.cells #[.slice a l c, .int .i64 e, .slice b m k0] 25)).alloc (Obj.cells #[.slice none 0 0, .int .i64 0, .slice none 0 0] 25)) (Obj.cells #[.slice a l c, .int .i64 e, .slice b m k0] 25)
    rw [World.size_alloc, World.size_alloc] at this
    exact this) (((H0.out.below (below_alloc _ _)).below (below_alloc _ _)).below (below_alloc _ _)) (((H1.out.below (below_alloc _ _)).below (below_alloc _ _)).below (below_alloc _ _))).mono ?_
  rintro e' w4 ⟨rfl, hb⟩
  have HX4 := Lib.hid (blk_below (blk_alloc (blk_alloc (heap_alloc_new w _) _) _) hb)
  have HR4 := Lib.hid (blk_below (blk_alloc (heap_alloc_new (w.alloc _) _) _) hb)
  rw [World.size_alloc] at HR4
  have B4 := Lib.hid ((((below_alloc w _).step (below_alloc _ _)).step (below_alloc _ _)).step hb)
  obtain ⟨x0, x1, x2, _⟩ := newTensor HX4.out
  clear hb M
  go_wp2_with fail
  refine (PO.out _ (H0.out.below B4.out)).mono ?_
  rintro e' w5 ⟨v, rfl, hb5⟩
  have HR5 := Lib.hid (blk_below HR4.out hb5)
  have B5 := Lib.hid (B4.out.step hb5)
  obtain ⟨r0, r1, r2, r3, r4, r5⟩ := newTensor HR5.out
  clear x0 x1 x2 hb5 PO
  go_wp2_with fail
  refine bodyPost_ret (v := .tuple #[.agg #[.slice none 0 0, .int .i64 0, .slice none 0 0], .slice none 0 0, .int .i64 2]) ?_ rfl ?_
  · obtain ⟨t0, t1, t2, _, _, _⟩ := newTensor (store3 (a := .slice none 0 0) (b := .int .i64 0) (c := .slice none 0 0) HR5.out)
    simp [results, Try.results19, go_sem, t0, t1, t2]
  · exact ⟨_, _, _, _, _, _, _, _, _, rfl, RowAt.zero _ _ _, RowAt.zero _ _ _, RowAt.zero _ _ _, ((B5.out.setCell (by show w.heap.size ≤ w.heap.size + 1; omega) _).setCell (by show w.heap.size ≤ w.heap.size + 1; omega) _).setCell (by show w.heap.size ≤ w.heap.size + 1; omega) _⟩
end Go.Proofs.Ytaijiihlkcbdhaa
