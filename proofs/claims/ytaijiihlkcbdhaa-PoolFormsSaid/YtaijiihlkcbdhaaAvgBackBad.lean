/-
  The walk of AvgBack where it may not be.
-/
import Derived.Test.YtaijiihlkcbdhaaMaxBack
import Derived.Test.YtaijiihlkcbdhaaBackEach
namespace Go.Proofs.Ytaijiihlkcbdhaa
open Go.RowKit
set_option linter.unusedVariables false
attribute [local go_sem ↓] Go.wp_at_zero Go.wp_at_succ
set_option maxHeartbeats 4000000 in
theorem avgBack_arg (a : Option Addr) (l c : Nat) (d : List Int) (e : Int) (b : Option Addr) (m k0 : Nat) (z : List Int) (da : Option Addr) (dl dc : Nat) (ds : List Int) (k s : Int) (w : World) (h0 : RowAt .i64 w a l d) (h1 : RowAt .i8 w b m z) (h3 : RowAt .i64 w da dl ds)
    (hbad : ¬ (T.may d e z ∧ 0 < Sh.size ds)) :
    Calls Try.prog 18 #[tensor a l c e b m k0, .slice da dl dc, .int .i64 k, .int .i64 s] w (GivesA [] 0 [] 1 w) := by
  have M := Lib.hid (fun w h0 h1 => tmay_any a l c d e b m k0 z w h0 h1)
  have S := Lib.hid (fun w h => may_any da dl dc ds w h)
  have H0 := Lib.hid h0
  have H1 := Lib.hid h1
  have H3 := Lib.hid h3
  clear h0 h1 h3
  have HBad := Lib.hid hbad
  clear hbad
  obtain ⟨C, hC⟩ : ∃ C, decide (0 < Sh.size ds) = C := ⟨_, rfl⟩
  obtain ⟨B, hB⟩ : ∃ B, decide (T.may d e z) = B := ⟨_, rfl⟩
  rw [hB] at M
  rw [hC] at S
  have HB := Lib.hid hB
  have HC := Lib.hid hC
  clear hB hC
  unfold tensor
  unfold tensor at M
  go_enter Try.func18, Try.ntmps18
  go_wp2_with fail
  refine (M.out _ ((H0.out.below (below_alloc _ _)).below (below_alloc _ _)) ((H1.out.below (below_alloc _ _)).below (below_alloc _ _))).mono ?_
  rintro e' w2 ⟨rfl, hb⟩
  obtain ⟨z0, z1, z2, y0, y1, y2⟩ := newTensor (blk_below (heap_alloc_new (w.alloc _) _) hb)
  rw [World.size_alloc] at z0 z1 z2 y0 y1 y2
  have BB := Lib.hid (((below_alloc w _).step (below_alloc _ _)).step hb)
  clear hb M
  cases B
  · go_wp2
    refine bodyPost_ret (v := .tuple #[.agg #[.slice none 0 0, .int .i64 0, .slice none 0 0], .int .i64 1]) ?_ rfl ⟨_, _, _, _, _, _, rfl, RowAt.zero _ _ _, RowAt.zero _ _ _, ((BB.out.setCell (by show w.heap.size ≤ w.heap.size + 1; omega) _).setCell (by show w.heap.size ≤ w.heap.size + 1; omega) _).setCell (by show w.heap.size ≤ w.heap.size + 1; omega) _⟩
    simp [results, Try.results18, go_sem, z0, z1, z2]
  · cases C
    · go_wp2_with fail
      refine (S.out _ (H3.out.below BB.out)).mono ?_
      rintro e' w3 ⟨rfl, rfl⟩
      go_wp2_with fail
      refine bodyPost_ret (v := .tuple #[.agg #[.slice none 0 0, .int .i64 0, .slice none 0 0], .int .i64 1]) ?_ rfl ⟨_, _, _, _, _, _, rfl, RowAt.zero _ _ _, RowAt.zero _ _ _, ((BB.out.setCell (by show w.heap.size ≤ w.heap.size + 1; omega) _).setCell (by show w.heap.size ≤ w.heap.size + 1; omega) _).setCell (by show w.heap.size ≤ w.heap.size + 1; omega) _⟩
      simp [results, Try.results18, go_sem, z0, z1, z2]
    · exact absurd ⟨of_decide_eq_true HB.out, of_decide_eq_true HC.out⟩ HBad.out
set_option maxHeartbeats 4000000 in
theorem avgBack_none (a : Option Addr) (l c : Nat) (d : List Int) (e : Int) (b : Option Addr) (m k0 : Nat) (z : List Int) (da : Option Addr) (dl dc : Nat) (ds : List Int) (k s : Int) (w : World) (h0 : RowAt .i64 w a l d) (h1 : RowAt .i8 w b m z) (h3 : RowAt .i64 w da dl ds)
    (ht : T.may d e z) (hs : 0 < Sh.size ds) (hk : ¬ (dl = 4 ∧ 0 < outW (ds.getD 2 0) k s 0 ∧ 0 < outW (ds.getD 3 0) k s 0)) :
    Calls Try.prog 18 #[tensor a l c e b m k0, .slice da dl dc, .int .i64 k, .int .i64 s] w (GivesA [] 0 [] 2 w) := by
  have M := Lib.hid (fun w h0 h1 => (decide_eq_true ht ▸ tmay_any a l c d e b m k0 z w h0 h1 : Calls _ _ _ _ (GivesV (.bool true) w)))
  have S := Lib.hid (fun w h => (decide_eq_true hs ▸ may_any da dl dc ds w h))
  have OV := Lib.hid (fun w h => over_bad da dl dc ds k s w h hk)
  have H0 := Lib.hid h0
  have H1 := Lib.hid h1
  have H3 := Lib.hid h3
  clear h0 h1 h3 ht hs hk
  unfold tensor
  unfold tensor at M
  go_enter Try.func18, Try.ntmps18
  go_wp2_with fail
  refine (M.out _ ((H0.out.below (below_alloc _ _)).below (below_alloc _ _)) ((H1.out.below (below_alloc _ _)).below (below_alloc _ _))).mono ?_
  rintro e' w2 ⟨rfl, hb⟩
  have HZ := Lib.hid (blk_below (heap_alloc_new (w.alloc _) _) hb)
  rw [World.size_alloc] at HZ
  have BB := Lib.hid (((below_alloc w _).step (below_alloc _ _)).step hb)
  clear hb M
  go_wp2_with fail
  refine (S.out _ (H3.out.below BB.out)).mono ?_
  rintro e' w2' ⟨rfl, rfl⟩
  go_wp2_with fail
  refine (OV.out _ (H3.out.below BB.out)).mono ?_
  rintro e' w3 ⟨v0, v1, v2, v3, v4, v5, rfl, hb⟩
  have HZ3 := Lib.hid (blk_below HZ.out hb)
  obtain ⟨z0, z1, z2, y0, y1, y2⟩ := newTensor HZ3.out
  have B3 := Lib.hid (BB.out.step hb)
  have hsz : w.heap.size + 1 < w3.heap.size := Nat.lt_of_lt_of_le (lt_of_block HZ.out) hb.size
  clear hb HZ H0 H1 OV BB
  go_wp2_with fail
  go_quiet (fail)
  go_wp2_with fail
  refine bodyPost_ret (v := .tuple #[.agg #[.slice none 0 0, .int .i64 0, .slice none 0 0], .int .i64 2]) ?_ rfl ⟨_, _, _, _, _, _, rfl, RowAt.zero _ _ _, RowAt.zero _ _ _, ?_⟩
  · obtain ⟨r0, r1, r2, _, _, _⟩ := newTensor (store3 (a := .slice none 0 0) (b := .int .i64 0) (c := .slice none 0 0) (blk_below (blk_alloc HZ3.out (Obj.cells #[.int .i64 v0, .int .i64 v1, .int .i64 v2, .int .i64 v3, .int .i64 v4, .int .i64 v5] 54)) (below_drewN _ nq)))
    simp [results, Try.results18, go_sem, r0, r1, r2]
  · have hz : w.heap.size ≤ w.heap.size + 1 := by omega
    exact ((((B3.out.step (below_alloc _ _)).draws nq).setCell hz _).setCell hz _).setCell hz _
end Go.Proofs.Ytaijiihlkcbdhaa
