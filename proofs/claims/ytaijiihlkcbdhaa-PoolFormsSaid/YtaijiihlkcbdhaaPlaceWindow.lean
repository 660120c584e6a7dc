import Derived.Test.YtaijiihlkcbdhaaPlaceWin
namespace Go.Proofs.Ytaijiihlkcbdhaa
open Go.RowKit Fl
set_option linter.unusedVariables false
/-- The places of a window, or none. -/
def winOk (rows cols r c k s p : Int) : Prop := 1 ≤ outW rows k s p ∧ 1 ≤ outW cols k s p ∧ 0 ≤ r ∧ r ≤ outW rows k s p - 1 ∧ 0 ≤ c ∧ c ≤ outW cols k s p - 1
instance (rows cols r c k s p : Int) : Decidable (winOk rows cols r c k s p) := by unfold winOk; infer_instance
def winW (rows cols r c k s p : Int) : List (Int × Int × Int) := if winOk rows cols r c k s p then Wn.win rows cols (r * s - p) (c * s - p) k.toNat k.toNat else []
set_option maxHeartbeats 1000000 in
theorem window_yes (rows cols r c k s p : Int) (w : World) (h : winOk rows cols r c k s p) : Calls Try.prog 46 #[.int .i64 rows, .int .i64 cols, .int .i64 r, .int .i64 c, .int .i64 k, .int .i64 s, .int .i64 p] w (GivesWin (Wn.win rows cols (r * s - p) (c * s - p) k.toNat k.toNat) w) := by
  obtain ⟨o1, o2, r1, r2, c1, c2⟩ := h
  obtain ⟨b1, b2, b3, b4, b5, b6, b7, b8, b9⟩ := outW_bound o1
  obtain ⟨d1, d2, d3, d4, d5, d6, d7, d8, d9⟩ := outW_bound o2
  have PO := Lib.hid (fun w => planeOut_any rows cols k s p w)
  have PW := Lib.hid (fun w => planeWindow_any rows cols s p r c k.toNat w b1 b2 d1 d2 (by omega) (by omega) b5 b6 b7 (by omega) r1 (by omega) c1 (by omega))
  rw [show ((k.toNat : Nat) : Int) = k by omega] at PW
  generalize outW rows k s p = m at *
  generalize outW cols k s p = n at *
  go_enter Try.func46, Try.ntmps46
  go_wp2_with fail
  refine (PO.out _).mono ?_
  rintro e w2 ⟨rfl, hb⟩
  obtain ⟨f0, f1, f2, f3, f4⟩ := planeCells rows cols k s p w
  have g0 := hb.cell_of f0
  have g1 := hb.cell_of f1
  have g2 := hb.cell_of f2
  have g3 := hb.cell_of f3
  have g4 := hb.cell_of f4
  have hB := Lib.hid ((below_alloc w _).step hb)
  clear hb f0 f1 f2 f3 f4 b1 b2 b3 b4 b5 b6 b7 b8 d1 d2 d3 d4 d5 d6 d7 d8 PO
  go_wp2_with fail
  refine (placeIn_yes r 0 (m - 1) _ r1 r2).mono ?_
  rintro e w' ⟨rfl, rfl⟩
  go_wp2_with fail
  refine (placeIn_yes c 0 (n - 1) _ c1 c2).mono ?_
  rintro e w' ⟨rfl, rfl⟩
  go_wp2_with fail
  refine (PW.out _).mono ?_
  rintro e w3 ⟨a, l, c', rfl, hw, hb3⟩
  have HW := Lib.hid hw
  have HB := Lib.hid (hB.out.step hb3)
  clear hw hb3 hB
  go_wp2
  go_ret
  exact ⟨_, _, _, rfl, HW.out, HB.out⟩
theorem outW_max (n k s p : Int) : 0 ≤ outW n k s p ∧ outW n k s p ≤ 20 := by
  by_cases h : 1 ≤ outW n k s p
  · have := (outW_bound h).2.2.2.2.2.2.2.2; omega
  · have : 0 ≤ outW n k s p := by
      unfold outW
      split
      · rename_i hk
        obtain ⟨h1, h2, h3, h4, h5, h6, h7, h8, h9⟩ := hk
        have := Int.ediv_nonneg (show 0 ≤ n + 2 * p - k by omega) (show 0 ≤ s by omega)
        omega
      · omega
    omega
set_option maxHeartbeats 2000000 in
theorem window_no (rows cols r c k s p : Int) (w : World) (h : ¬ winOk rows cols r c k s p) : Calls Try.prog 46 #[.int .i64 rows, .int .i64 cols, .int .i64 r, .int .i64 c, .int .i64 k, .int .i64 s, .int .i64 p] w (GivesWin [] w) := by
  have PO := Lib.hid (fun w => planeOut_any rows cols k s p w)
  obtain ⟨m0, m20⟩ := outW_max rows k s p
  obtain ⟨n0, n20⟩ := outW_max cols k s p
  unfold winOk at h
  generalize outW rows k s p = m at *
  generalize outW cols k s p = n at *
  have cs : m < 1 ∨ (1 ≤ m ∧ n < 1) ∨ (1 ≤ m ∧ 1 ≤ n ∧ (r < 0 ∨ m - 1 < r)) ∨ (1 ≤ m ∧ 1 ≤ n ∧ 0 ≤ r ∧ r ≤ m - 1 ∧ (c < 0 ∨ n - 1 < c)) := by omega
  clear h
  rcases cs with h | ⟨h1, h⟩ | ⟨h1, h2, h⟩ | ⟨h1, h2, h3, h4, h⟩
  · go_enter Try.func46, Try.ntmps46
    go_wp2_with fail
    refine (PO.out _).mono ?_
    rintro e w2 ⟨rfl, hb⟩
    have hB := Lib.hid ((below_alloc w _).step hb)
    clear hb
    go_wp2
    go_ret
    exact ⟨_, _, _, rfl, ⟨rfl, Or.inl rfl⟩, hB.out⟩
  · go_enter Try.func46, Try.ntmps46
    go_wp2_with fail
    refine (PO.out _).mono ?_
    rintro e w2 ⟨rfl, hb⟩
    have hB := Lib.hid ((below_alloc w _).step hb)
    clear hb
    go_wp2
    go_ret
    exact ⟨_, _, _, rfl, ⟨rfl, Or.inl rfl⟩, hB.out⟩
  · have IN := Lib.hid (fun w => placeIn_no r 0 (m - 1) w h)
    clear h
    go_enter Try.func46, Try.ntmps46
    go_wp2_with fail
    refine (PO.out _).mono ?_
    rintro e w2 ⟨rfl, hb⟩
    have hB := Lib.hid ((below_alloc w _).step hb)
    clear hb
    go_wp2_with fail
    refine (IN.out _).mono ?_
    rintro e w' ⟨rfl, rfl⟩
    go_wp2
    go_ret
    exact ⟨_, _, _, rfl, ⟨rfl, Or.inl rfl⟩, hB.out⟩
  · have IN := Lib.hid (fun w => placeIn_no c 0 (n - 1) w h)
    clear h
    go_enter Try.func46, Try.ntmps46
    go_wp2_with fail
    refine (PO.out _).mono ?_
    rintro e w2 ⟨rfl, hb⟩
    have hB := Lib.hid ((below_alloc w _).step hb)
    clear hb
    go_wp2_with fail
    refine (placeIn_yes r 0 (m - 1) _ h3 h4).mono ?_
    rintro e w' ⟨rfl, rfl⟩
    go_wp2_with fail
    refine (IN.out _).mono ?_
    rintro e w' ⟨rfl, rfl⟩
    go_wp2
    go_ret
    exact ⟨_, _, _, rfl, ⟨rfl, Or.inl rfl⟩, hB.out⟩
theorem window_any (rows cols r c k s p : Int) (w : World) : Calls Try.prog 46 #[.int .i64 rows, .int .i64 cols, .int .i64 r, .int .i64 c, .int .i64 k, .int .i64 s, .int .i64 p] w (GivesWin (winW rows cols r c k s p) w) := by
  unfold winW
  by_cases h : winOk rows cols r c k s p
  · rw [if_pos h]; exact window_yes rows cols r c k s p w h
  · rw [if_neg h]; exact window_no rows cols r c k s p w h
end Go.Proofs.Ytaijiihlkcbdhaa
