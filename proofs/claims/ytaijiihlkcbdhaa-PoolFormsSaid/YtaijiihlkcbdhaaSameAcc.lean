/-
  Sums that are the same.
-/
import Derived.Test.YtaijiihlkcbdhaaPoolTools
import Derived.Test.YtaijiihlkcbdhaaBackGen
namespace Go.Proofs.Ytaijiihlkcbdhaa
open Go.RowKit
set_option linter.unusedVariables false
attribute [local go_sem ↓] Go.wp_at_zero Go.wp_at_succ
set_option maxHeartbeats 400000 in
theorem refSameAcc_self (a : Option Addr) (l c : Nat) (d : List Int) (e : Int) (b : Option Addr) (m k : Nat) (z : List Int) (a2 : Option Addr) (l2 c2 : Nat) (b2 : Option Addr) (m2 k2 : Nat) (w : World)
    (h0 : RowAt .i64 w a l d) (h1 : RowAt .i32 w b m z) (g0 : RowAt .i64 w a2 l2 d) (g1 : RowAt .i32 w b2 m2 z) :
    Calls Try.prog 23 #[tensor a l c e b m k, tensor a2 l2 c2 e b2 m2 k2] w (GivesV (.bool true) w) := by
  obtain rfl : l = l2 := by rw [← h0.len_eq, ← g0.len_eq]
  obtain rfl : m = m2 := by rw [← h1.len_eq, ← g1.len_eq]
  have hml := h1.len_le
  have B1 := below_alloc w (Obj.cells #[.slice a l c, .int .i64 e, .slice b m k] 33)
  have B2 := below_alloc (w.alloc (Obj.cells #[.slice a l c, .int .i64 e, .slice b m k] 33)) (Obj.cells #[.slice a2 l c2, .int .i64 e, .slice b2 m k2] 33)
  have hn1 := blk_below (tensor_cells w a l c e b m k 33) B2
  have hn2 := tensor_cells (w.alloc (Obj.cells #[.slice a l c, .int .i64 e, .slice b m k] 33)) a2 l c2 e b2 m k2 33
  have BB := Lib.hid (B1.step B2)
  have H0 := Lib.hid (h0.below BB.out)
  have H1 := Lib.hid (h1.below BB.out)
  have G0 := Lib.hid (g0.below BB.out)
  have G1 := Lib.hid (g1.below BB.out)
  have hb : ((m : Int) != (m : Int)) = false := by simp
  have he : (e != e) = false := by simp
  rw [World.size_alloc] at hn2
  have N1 := Lib.hid hn1
  have N2 := Lib.hid hn2
  clear h0 h1 g0 g1 hn1 hn2 B1 B2
  unfold tensor
  go_enter Try.func23, Try.ntmps23
  go_wp2_with fail
  generalize hw1 : (w.alloc (Obj.cells #[.slice a l c, .int .i64 e, .slice b m k] 33)).alloc (Obj.cells #[.slice a2 l c2, .int .i64 e, .slice b2 m k2] 33) = w1 at *
  clear hw1
  refine (show Calls _ _ _ _ (Gives (.bool true) w1) from (decide_eq_true (show d = d from rfl)) ▸ refSame_any a l c d a2 l c2 d w1 H0.out G0.out).mono ?_
  rintro e' w' ⟨rfl, q0, rfl⟩
  obtain ⟨x0, x1, x2, _⟩ := newTensor (blk_below N1.out (below_drewN w1 q0))
  obtain ⟨y0, y1, y2, _⟩ := newTensor (blk_below N2.out (below_drewN w1 q0))
  go_wp2_with fail
  go_loopw [31] (fun i wr => ∃ k q : Nat, k ≤ m ∧ i = .int .i64 k ∧ wr = w1.drewN q) (fun i _ => m - (intOf i).toNat)
  case atStart => exact ⟨0, q0, Nat.zero_le _, rfl, rfl⟩
  case round =>
    obtain ⟨i, q, hk, rfl, rfl⟩ := hrel
    clear x0 x1 x2 y0 y1 y2
    obtain ⟨x0, x1, x2, _⟩ := newTensor N1.out
    obtain ⟨y0, y1, y2, _⟩ := newTensor N2.out
    by_cases hlt : i < m
    · obtain ⟨p0, o0, rfl, e0⟩ := H1.out.cells (by omega)
      obtain ⟨p1, o1, rfl, e1⟩ := G1.out.cells (by omega)
      have f0 := e0 i hlt
      have f1 := e1 i hlt
      clear e0 e1
      generalize z.getD i 0 = x at *
      have c2 : (x != x) = false := by simp
      go_wp2
      go_quiet (fail)
      go_wp2
      go_roundw
      case rel => exact ⟨i + 1, q + nq, by omega, by go_num, rfl⟩
      case measure => simp [intOf]; omega
    · go_wp2
      go_ret
      exact ⟨rfl, BB.out.draws q⟩
end Go.Proofs.Ytaijiihlkcbdhaa
