/-
  Plain laws of the windows over planes.
-/
import Derived.Test.YtaijiihlkcbdhaaPoolMaxStep
namespace Go.Proofs.Ytaijiihlkcbdhaa
open Go.RowKit
set_option linter.unusedVariables false
theorem outW_fit {n k s : Int} (h : 1 ≤ outW n k s 0) : 1 ≤ n ∧ n ≤ 16 ∧ 1 ≤ k ∧ k ≤ 5 ∧ 1 ≤ s ∧ s ≤ 4 ∧ outW n k s 0 ≤ n ∧ ∀ y, 0 ≤ y → y < outW n k s 0 → y * s + k ≤ n := by
  unfold outW at h ⊢
  split at h
  · rename_i hk
    rw [if_pos hk]
    obtain ⟨h1, h2, h3, h4, h5, h6, _, _, h9⟩ := hk
    have e1 := Int.mul_ediv_add_emod (n + 2 * 0 - k) s
    have e2 := Int.emod_nonneg (n + 2 * 0 - k) (show s ≠ 0 by omega)
    have e3 := Int.ediv_nonneg (show 0 ≤ n + 2 * 0 - k by omega) (show 0 ≤ s by omega)
    generalize (n + 2 * 0 - k) / s = q at *
    generalize (n + 2 * 0 - k) % s = r at *
    have e4 : q ≤ s * q := by
      have := Int.mul_le_mul_of_nonneg_right h5 e3
      omega
    refine ⟨h1, h2, h3, h4, h5, h6, by omega, fun y hy hy2 => ?_⟩
    have := Int.mul_le_mul_of_nonneg_right (show y ≤ q by omega) (show 0 ≤ s by omega)
    rw [Int.mul_comm q s] at this
    omega
  · omega
/-- A window without a pad lies in the plane: its first place is its corner. -/
theorem winW_first {R C k s : Int} {P Q y x : Nat} (hP : outW R k s 0 = P) (hQ : outW C k s 0 = Q) (hy : y < P) (hx : x < Q) : winOk R C y x k s 0 ∧ ((y : Int) * s * C + x * s, (0 : Int), (0 : Int)) ∈ winW R C y x k s 0 := by
  have hok : winOk R C y x k s 0 := ⟨by omega, by omega, by omega, by omega, by omega, by omega⟩
  refine ⟨hok, ?_⟩
  obtain ⟨r1, r2, k1, k2, s1, s2, _, fit1⟩ := outW_fit hok.1
  obtain ⟨c1, c2, _, _, _, _, _, fit2⟩ := outW_fit hok.2.1
  have g1 := fit1 y (by omega) (by omega)
  have g2 := fit2 x (by omega) (by omega)
  have n1 := Int.mul_nonneg (show (0 : Int) ≤ y by omega) (show 0 ≤ s by omega)
  have n2 := Int.mul_nonneg (show (0 : Int) ≤ x by omega) (show 0 ≤ s by omega)
  unfold winW
  rw [if_pos hok]
  refine Wn.mem_win.2 ⟨0, 0, by omega, by omega, ⟨by omega, by omega⟩, ⟨by omega, by omega⟩, ?_⟩
  simp
theorem ix_pos {R C k s : Int} {P Q n i : Nat} (hP : outW R k s 0 = P) (hQ : outW C k s 0 = Q) (hi : i < P * Q) (hQ0 : 0 < Q) : 0 < (ix R C k s Q n i).length := by
  have hy : i / Q < P := Nat.div_lt_of_lt_mul (by rw [Nat.mul_comm]; exact hi)
  have hx : i % Q < Q := Nat.mod_lt _ hQ0
  unfold ix
  rw [List.length_map]
  exact List.length_pos_of_mem (winW_first hP hQ hy hx).2
theorem ix_in {R C k s : Int} {Q N n i : Nat} (hR : 1 ≤ R) (hC : 1 ≤ C) (hn : n < N) : ∀ z ∈ ix R C k s Q n i, 0 ≤ z ∧ z < N * R * C := by
  intro z hz
  obtain ⟨t, ht, rfl⟩ := List.mem_map.1 hz
  obtain ⟨t1, t2, _⟩ := winW_bound ht
  have n1 : 0 ≤ (n : Int) * R * C := Int.mul_nonneg (Int.mul_nonneg (by omega) (by omega)) (by omega)
  have n2 : ((n : Int) + 1) * (R * C) ≤ (N : Int) * (R * C) := Int.mul_le_mul_of_nonneg_right (by omega) (Int.mul_nonneg (by omega) (by omega))
  rw [Int.add_mul, Int.one_mul, ← Int.mul_assoc, ← Int.mul_assoc] at n2
  omega
namespace T
/-- The window number j of all planes. -/
def wix (R C k s : Int) (P Q j : Nat) : List Int := ix R C k s Q (j / (P * Q)) (j % (P * Q))
theorem wix_eq (R C k s : Int) (P Q n i : Nat) (h : i < P * Q) : wix R C k s P Q (n * (P * Q) + i) = ix R C k s Q n i := by
  unfold wix
  rw [Nat.mul_comm, Nat.mul_add_div (by omega), Nat.div_eq_of_lt h, Nat.add_zero, Nat.mul_add_mod, Nat.mod_eq_of_lt h]
/-- Where the greatest of window j lies. -/
def top (D : List Int) (R C k s : Int) (P Q j : Nat) : Int := best D ((wix R C k s P Q j).getD 0 0) (wix R C k s P Q j)
def tops (D : List Int) (R C k s : Int) (P Q n : Nat) : List Int := (List.range n).map (top D R C k s P Q)
def maxs (D : List Int) (R C k s : Int) (P Q n : Nat) : List Int := (List.range n).map (fun j => D.getD (top D R C k s P Q j).toNat 0)
theorem tops_succ (D : List Int) (R C k s : Int) (P Q n : Nat) : tops D R C k s P Q (n + 1) = tops D R C k s P Q n ++ [top D R C k s P Q n] := by simp [tops, List.range_succ]
theorem maxs_succ (D : List Int) (R C k s : Int) (P Q n : Nat) : maxs D R C k s P Q (n + 1) = maxs D R C k s P Q n ++ [D.getD (top D R C k s P Q n).toNat 0] := by simp [maxs, List.range_succ]
theorem top_in {D : List Int} {R C k s : Int} {P Q N j : Nat} (hP : outW R k s 0 = P) (hQ : outW C k s 0 = Q) (hP0 : 0 < P) (hQ0 : 0 < Q) (hj : j < N * (P * Q)) : 0 ≤ top D R C k s P Q j ∧ top D R C k s P Q j < N * R * C ∧ top D R C k s P Q j ∈ wix R C k s P Q j := by
  obtain ⟨r1, _⟩ := outW_fit (show 1 ≤ outW R k s 0 by omega)
  obtain ⟨c1, _⟩ := outW_fit (show 1 ≤ outW C k s 0 by omega)
  have hM : 0 < P * Q := Nat.mul_pos hP0 hQ0
  have hn : j / (P * Q) < N := Nat.div_lt_of_lt_mul (by rw [Nat.mul_comm]; exact hj)
  have hi : j % (P * Q) < P * Q := Nat.mod_lt _ hM
  have hpos : 0 < (wix R C k s P Q j).length := ix_pos hP hQ hi hQ0
  have hmem : top D R C k s P Q j ∈ wix R C k s P Q j := by
    unfold top
    rcases best_mem D (wix R C k s P Q j) ((wix R C k s P Q j).getD 0 0) with e | e
    · rw [e]; simp [List.getD, List.getElem?_eq_getElem hpos]
    · exact e
  have := ix_in (R := R) (C := C) (k := k) (s := s) (Q := Q) (i := j % (P * Q)) r1 c1 hn _ hmem
  exact ⟨this.1, this.2, hmem⟩
end T
end Go.Proofs.Ytaijiihlkcbdhaa
