/-
  The walks of shape.Out (how many windows fit), of what the layer asks of itself in part, and of the law ShapeOut.
-/
import Derived.Test.YtaijiihlkcbdhaaKit
import Derived.Deep.QuietTactic
import Derived.BigQuiet
namespace Go.Proofs.Ytaijiihlkcbdhaa
open Go.RowKit
set_option linter.unusedVariables false

/-- May so many windows of k, a stride apart, with a pad, be asked for? -/
def OutOk (n k s p : Int) : Prop := 1 ≤ n ∧ n ≤ 16 ∧ 1 ≤ k ∧ k ≤ 5 ∧ 1 ≤ s ∧ s ≤ 4 ∧ 0 ≤ p ∧ p ≤ k - 1 ∧ k ≤ n + 2 * p
instance (n k s p : Int) : Decidable (OutOk n k s p) := by unfold OutOk; infer_instance
/-- How many fit. -/
def outW (n k s p : Int) : Int := if OutOk n k s p then (n + 2 * p - k) / s + 1 else 0

theorem shapeIn_yes (n lo hi : Int) (w : World) (h1 : lo ≤ n) (h2 : n ≤ hi) : Calls Try.prog 50 #[.int .i64 n, .int .i64 lo, .int .i64 hi] w fun e w' => e = .returned (.bool true) ∧ w = w' := by
  go_enter Try.func50, Try.ntmps50
  go_wp2
  go_ret
  exact ⟨rfl, rfl⟩
theorem shapeIn_no (n lo hi : Int) (w : World) (h : n < lo ∨ hi < n) : Calls Try.prog 50 #[.int .i64 n, .int .i64 lo, .int .i64 hi] w fun e w' => e = .returned (.bool false) ∧ w = w' := by
  by_cases h1 : n < lo
  · clear h
    go_enter Try.func50, Try.ntmps50
    go_wp2
    go_ret
    exact ⟨rfl, rfl⟩
  · have h2 : hi < n := by omega
    have h3 : decide (n ≤ hi) = false := decide_eq_false (by omega)
    clear h
    go_enter Try.func50, Try.ntmps50
    go_wp2
    go_ret
    exact ⟨rfl, rfl⟩
theorem out_yes (n k s p : Int) (w : World) (h : OutOk n k s p) : Calls Try.prog 45 #[.int .i64 n, .int .i64 k, .int .i64 s, .int .i64 p] w fun e w' => e = .returned (.int .i64 ((n + 2 * p - k) / s + 1)) ∧ w = w' := by
  obtain ⟨h1, h2, h3, h4, h5, h6, h7, h8, h9⟩ := h
  have d0 : 0 ≤ (n + 2 * p - k) / s := Int.ediv_nonneg (by omega) (by omega)
  have d1 : (n + 2 * p - k) / s ≤ 100 := by
    apply Int.ediv_le_of_le_mul (by omega)
    omega
  go_enter Try.func45, Try.ntmps45
  go_wp2_with (go_at_call 50; go_call shapeIn_yes as e w' ⟨rfl, rfl⟩)
  go_ret
  exact ⟨rfl, rfl⟩
theorem out_no (n k s p : Int) (w : World) (h : ¬ OutOk n k s p) : Calls Try.prog 45 #[.int .i64 n, .int .i64 k, .int .i64 s, .int .i64 p] w fun e w' => e = .returned (.int .i64 0) ∧ w = w' := by
  have cs : (n < 1 ∨ 16 < n) ∨ (1 ≤ n ∧ n ≤ 16 ∧ (k < 1 ∨ 5 < k)) ∨ (1 ≤ n ∧ n ≤ 16 ∧ 1 ≤ k ∧ k ≤ 5 ∧ (s < 1 ∨ 4 < s)) ∨ (1 ≤ n ∧ n ≤ 16 ∧ 1 ≤ k ∧ k ≤ 5 ∧ 1 ≤ s ∧ s ≤ 4 ∧ (p < 0 ∨ k - 1 < p)) ∨ (1 ≤ n ∧ n ≤ 16 ∧ 1 ≤ k ∧ k ≤ 5 ∧ 1 ≤ s ∧ s ≤ 4 ∧ 0 ≤ p ∧ p ≤ k - 1 ∧ n + 2 * p < k) := by
    unfold OutOk at h; omega
  clear h
  rcases cs with h | ⟨h1, h2, h⟩ | ⟨h1, h2, h3, h4, h⟩ | ⟨h1, h2, h3, h4, h5, h6, h⟩ | ⟨h1, h2, h3, h4, h5, h6, h7, h8, h⟩
  all_goals
    have H := Lib.hid h
    try (clear h; have H2 := H.out)
    go_enter Try.func45, Try.ntmps45
    go_wp2_with (go_at_call 50; first | go_call shapeIn_yes as e w' ⟨rfl, rfl⟩ | go_call shapeIn_no as e w' ⟨rfl, rfl⟩)
    go_ret
    exact ⟨rfl, rfl⟩
theorem out_any (n k s p : Int) (w : World) : Calls Try.prog 45 #[.int .i64 n, .int .i64 k, .int .i64 s, .int .i64 p] w fun e w' => e = .returned (.int .i64 (outW n k s p)) ∧ w = w' := by
  unfold outW
  split
  · exact out_yes n k s p w ‹_›
  · exact out_no n k s p w ‹_›

/-! ### ShapeOut -/
theorem outW_fits {n k s p O : Int} (h : outW n k s p = O) (h0 : O ≠ 0) : ∃ X : Int, 1 ≤ n ∧ n ≤ 16 ∧ 1 ≤ k ∧ k ≤ 5 ∧ 1 ≤ s ∧ s ≤ 4 ∧ 0 ≤ p ∧ p ≤ 4 ∧ 0 < O ∧ O ≤ 100 ∧ (O - 1) * s = X ∧ O * s = X + s ∧ 0 ≤ X ∧ X ≤ 1000 ∧ X + k ≤ n + 2 * p ∧ n + 2 * p < X + s + k := by
  unfold outW at h
  split at h
  · rename_i hk
    obtain ⟨h1, h2, h3, h4, h5, h6, h7, h8, h9⟩ := hk
    have d0 : 0 ≤ (n + 2 * p - k) / s := Int.ediv_nonneg (by omega) (by omega)
    have d1 : (n + 2 * p - k) / s ≤ 24 := by
      apply Int.ediv_le_of_le_mul (by omega)
      omega
    have e := Int.mul_ediv_add_emod (n + 2 * p - k) s
    have e1 := Int.emod_nonneg (n + 2 * p - k) (show s ≠ 0 by omega)
    have e2 := Int.emod_lt_of_pos (n + 2 * p - k) (show 0 < s by omega)
    generalize (n + 2 * p - k) / s = D at *
    generalize (n + 2 * p - k) % s = M at *
    subst h
    have em : (D + 1) * s = s * D + s := by rw [Int.add_mul, Int.one_mul, Int.mul_comm]
    have em2 : (D + 1 - 1) * s = s * D := by rw [Int.add_sub_cancel, Int.mul_comm]
    refine ⟨s * D, h1, h2, h3, h4, h5, h6, h7, by omega, by omega, by omega, em2, em, Int.mul_nonneg (by omega) d0, by omega, by omega, by omega⟩
  · exact absurd h.symm h0
end Go.Proofs.Ytaijiihlkcbdhaa
