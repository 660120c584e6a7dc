/-
  What the layer 'place' asks of itself; the reference's number of windows.
-/
import Derived.Test.YtmebchgjofpepaaPlaceWindow
namespace Go.Proofs.Ytmebchgjofpepaa
open Go.RowKit Fl
set_option linter.unusedVariables false
theorem aw9_any (w : World) : Calls Try.prog 14 #[] w (GivesV (.bool true) w) := by
  have a1 : winW 3 3 0 0 2 1 1 = [(0, 1, 1)] := by decide
  have H1 := Lib.hid (fun w => a1 ▸ window_any 3 3 0 0 2 1 1 w)
  clear a1
  go_enter Try.func14, Try.ntmps14
  go_wp2_with fail
  refine (H1.out _).mono ?_
  rintro e w2 ⟨a, n, c, rfl, ⟨hl, hw⟩, hb⟩
  simp at hl
  subst hl
  obtain ⟨g, rfl, hg, hc⟩ := hw.resolve_left (by omega)
  obtain ⟨f0, f1, f2⟩ := hc 0 (by omega)
  simp at f0 f1 f2
  have HB := Lib.hid hb
  clear hb hc hw
  go_wp2
  go_ret
  exact ⟨rfl, HB.out⟩

theorem refO_yes (n k s p : Int) (w : World) (h : OutOk n k s p) : Calls Try.prog 13 #[.int .i64 n, .int .i64 k, .int .i64 s, .int .i64 p] w fun e w' => e = .returned (.int .i64 ((n + 2 * p - k) / s + 1)) ∧ w = w' := by
  obtain ⟨h1, h2, h3, h4, h5, h6, h7, h8, h9⟩ := h
  have d0 : 0 ≤ (n + 2 * p - k) / s := Int.ediv_nonneg (by omega) (by omega)
  have d1 : (n + 2 * p - k) / s ≤ 100 := by
    apply Int.ediv_le_of_le_mul (by omega)
    omega
  go_enter Try.func13, Try.ntmps13
  go_wp2
  go_ret
  exact ⟨rfl, rfl⟩
set_option maxHeartbeats 4000000 in
theorem refO_no (n k s p : Int) (w : World) (h : ¬ OutOk n k s p) : Calls Try.prog 13 #[.int .i64 n, .int .i64 k, .int .i64 s, .int .i64 p] w fun e w' => e = .returned (.int .i64 0) ∧ w = w' := by
  have cs : n < 1 ∨ (1 ≤ n ∧ 16 < n) ∨ (1 ≤ n ∧ n ≤ 16 ∧ k < 1) ∨ (1 ≤ n ∧ n ≤ 16 ∧ 1 ≤ k ∧ 5 < k) ∨ (1 ≤ n ∧ n ≤ 16 ∧ 1 ≤ k ∧ k ≤ 5 ∧ s < 1) ∨ (1 ≤ n ∧ n ≤ 16 ∧ 1 ≤ k ∧ k ≤ 5 ∧ 1 ≤ s ∧ 4 < s) ∨ (1 ≤ n ∧ n ≤ 16 ∧ 1 ≤ k ∧ k ≤ 5 ∧ 1 ≤ s ∧ s ≤ 4 ∧ p < 0) ∨ (1 ≤ n ∧ n ≤ 16 ∧ 1 ≤ k ∧ k ≤ 5 ∧ 1 ≤ s ∧ s ≤ 4 ∧ 0 ≤ p ∧ k ≤ p) ∨ (1 ≤ n ∧ n ≤ 16 ∧ 1 ≤ k ∧ k ≤ 5 ∧ 1 ≤ s ∧ s ≤ 4 ∧ 0 ≤ p ∧ p < k ∧ n + 2 * p < k) := by
    unfold OutOk at h; omega
  clear h
  rcases cs with h | ⟨h1, h⟩ | ⟨h1, h2, h⟩ | ⟨h1, h2, h3, h⟩ | ⟨h1, h2, h3, h4, h⟩ | ⟨h1, h2, h3, h4, h5, h⟩ | ⟨h1, h2, h3, h4, h5, h6, h⟩ | ⟨h1, h2, h3, h4, h5, h6, h7, h⟩ | ⟨h1, h2, h3, h4, h5, h6, h7, h8, h⟩
  all_goals
    go_enter Try.func13, Try.ntmps13
    go_wp2
    go_ret
    exact ⟨rfl, rfl⟩
theorem refO_any (n k s p : Int) (w : World) : Calls Try.prog 13 #[.int .i64 n, .int .i64 k, .int .i64 s, .int .i64 p] w fun e w' => e = .returned (.int .i64 (outW n k s p)) ∧ w = w' := by
  unfold outW
  split
  · exact refO_yes n k s p w ‹_›
  · exact refO_no n k s p w ‹_›

end Go.Proofs.Ytmebchgjofpepaa
