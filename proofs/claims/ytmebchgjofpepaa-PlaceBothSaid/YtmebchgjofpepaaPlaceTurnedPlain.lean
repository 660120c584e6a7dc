/-
  Plain laws of a window's places: turned, each once.
-/
import Derived.Test.YtmebchgjofpepaaPlaceWindow
import Derived.Test.YtmebchgjofpepaaCount
namespace Go.Proofs.Ytmebchgjofpepaa
open Go.RowKit
set_option linter.unusedVariables false
namespace Wn
/-- How many places of a side lie in the plane. -/
def side (rows y : Int) : Nat → Nat
  | 0 => 0
  | n + 1 => side rows y n + if 0 ≤ y + n ∧ y + n ≤ rows - 1 then 1 else 0
theorem side_succ (rows y : Int) (n : Nat) : side rows y (n + 1) = side rows y n + if 0 ≤ y + n ∧ y + n ≤ rows - 1 then 1 else 0 := rfl
theorem length_row_eq (rows cols y x : Int) (i : Nat) : ∀ n, (row rows cols y x i n).length = if 0 ≤ y + i ∧ y + i ≤ rows - 1 then side cols x n else 0
  | 0 => by simp [row, side]
  | n + 1 => by
    rw [row_succ, List.length_append, length_row_eq rows cols y x i n]
    rw [side_succ]
    unfold cell
    by_cases h : 0 ≤ y + i ∧ y + i ≤ rows - 1
    · by_cases h2 : 0 ≤ x + n ∧ x + n ≤ cols - 1
      · rw [if_pos h, if_pos ⟨h, h2⟩, if_pos h, if_pos h2]; rfl
      · rw [if_pos h, if_neg (fun g => h2 g.2), if_pos h, if_neg h2]; rfl
    · rw [if_neg h, if_neg (fun g => h g.1), if_neg h]; rfl
theorem length_win_eq (rows cols y x : Int) (k : Nat) : ∀ n, (win rows cols y x n k).length = side rows y n * side cols x k
  | 0 => by simp [win, side]
  | n + 1 => by
    rw [win_succ, List.length_append, length_win_eq rows cols y x k n, length_row_eq]
    rw [side_succ]
    split
    · rw [Nat.add_mul, Nat.one_mul]
    · rw [Nat.add_zero, Nat.add_zero]
theorem mem_win {rows cols y x : Int} {n k : Nat} {t : Int × Int × Int} : t ∈ win rows cols y x n k ↔ ∃ i j : Nat, i < n ∧ j < k ∧ (0 ≤ y + i ∧ y + i ≤ rows - 1) ∧ (0 ≤ x + j ∧ x + j ≤ cols - 1) ∧ t = ((y + i) * cols + (x + j), (i : Int), (j : Int)) := by
  unfold win row
  simp only [List.mem_flatMap, List.mem_range]
  constructor
  · rintro ⟨i, hi, j, hj, h⟩
    unfold cell at h
    split at h
    · rename_i hc
      exact ⟨i, j, hi, hj, hc.1, hc.2, by simpa using h⟩
    · simp at h
  · rintro ⟨i, j, hi, hj, h1, h2, h⟩
    refine ⟨i, hi, j, hj, ?_⟩
    unfold cell
    rw [if_pos ⟨h1, h2⟩, h]
    simp
theorem cell_rc {rows cols y x : Int} {i j : Nat} {t : Int × Int × Int} (h : t ∈ cell rows cols y x i j) : t.2 = ((i : Int), (j : Int)) := by
  unfold cell at h
  split at h
  · rw [List.mem_singleton] at h
    rw [h]
  · simp at h
theorem row_r {rows cols y x : Int} {i n : Nat} {t : Int × Int × Int} (h : t ∈ row rows cols y x i n) : t.2.1 = (i : Int) := by
  obtain ⟨j, _, h⟩ := List.mem_flatMap.1 h
  rw [cell_rc h]
/-- Each is there once: by row and column of the window alone. -/
theorem nodup_row (rows cols y x : Int) (i : Nat) : ∀ n, ((row rows cols y x i n).map (·.2)).Nodup ∧ ∀ t ∈ row rows cols y x i n, t.2.2 < n
  | 0 => by simp [row]
  | n + 1 => by
    obtain ⟨h1, h2⟩ := nodup_row rows cols y x i n
    rw [row_succ]
    refine ⟨?_, fun t ht => ?_⟩
    · rw [List.map_append]
      refine List.nodup_append.2 ⟨h1, ?_, ?_⟩
      · unfold cell; split <;> simp
      · intro a ha b hb e
        obtain ⟨t, ht, rfl⟩ := List.mem_map.1 ha
        obtain ⟨u, hu, rfl⟩ := List.mem_map.1 hb
        have := h2 t ht
        rw [e, cell_rc hu] at this
        simp at this
    · rcases List.mem_append.1 ht with ht | ht
      · have := h2 t ht; omega
      · rw [cell_rc ht]; show (n : Int) < _; omega
theorem nodup_win (rows cols y x : Int) (k : Nat) : ∀ n, ((win rows cols y x n k).map (·.2)).Nodup ∧ ∀ t ∈ win rows cols y x n k, t.2.1 < n
  | 0 => by simp [win]
  | n + 1 => by
    obtain ⟨h1, h2⟩ := nodup_win rows cols y x k n
    rw [win_succ]
    refine ⟨?_, fun t ht => ?_⟩
    · rw [List.map_append]
      refine List.nodup_append.2 ⟨h1, (nodup_row rows cols y x n k).1, ?_⟩
      intro a ha b hb e
      obtain ⟨t, ht, rfl⟩ := List.mem_map.1 ha
      obtain ⟨u, hu, rfl⟩ := List.mem_map.1 hb
      have := h2 t ht
      rw [e, row_r hu] at this
      omega
    · rcases List.mem_append.1 ht with ht | ht
      · have := h2 t ht; omega
      · rw [row_r ht]; omega
/-- A place of a window, as a key. -/
def key (t : Int × Int × Int) : List Int := [t.1, t.2.1, t.2.2]
theorem key_inj {t u : Int × Int × Int} (h : key t = key u) : t = u := by
  obtain ⟨a, b, c⟩ := t
  obtain ⟨d, e, f⟩ := u
  simp [key] at h
  simp [h]
theorem nodup_keys (rows cols y x : Int) (n k : Nat) : ((win rows cols y x n k).map key).Nodup := by
  have h := (nodup_win rows cols y x k n).1
  generalize win rows cols y x n k = L at *
  rw [List.Nodup, List.pairwise_map] at h ⊢
  exact h.imp fun hne e => hne (by rw [key_inj e])
theorem count_key {rows cols y x : Int} {n k : Nat} {t : Int × Int × Int} (h : t ∈ win rows cols y x n k) : ((win rows cols y x n k).map key).count (key t) = 1 := by
  have h1 := List.nodup_iff_count.1 (nodup_keys rows cols y x n k) (key t)
  have h2 := List.count_pos_iff.2 (List.mem_map.2 ⟨t, h, rfl⟩ : key t ∈ (win rows cols y x n k).map key)
  omega
theorem take_key (L : List (Int × Int × Int)) (j : Nat) (h : j < L.length) : (L.take (j + 1)).map key = (L.take j).map key ++ [key (L.getD j (0, 0, 0))] ∧ L.getD j (0, 0, 0) ∈ L := by
  have e : L.getD j (0, 0, 0) = L[j] := by simp [List.getD, h]
  rw [e, List.take_succ_eq_append_getElem h, List.map_append]
  exact ⟨rfl, List.getElem_mem h⟩
end Wn
/-- What a window's places are: bounds. -/
theorem winW_mem {rows cols r c k s p : Int} {t : Int × Int × Int} (h : t ∈ winW rows cols r c k s p) : ∃ y x : Int, 0 ≤ y ∧ y ≤ rows - 1 ∧ 0 ≤ x ∧ x ≤ cols - 1 ∧ t.1 = y * cols + x ∧ 0 ≤ t.2.1 ∧ t.2.1 ≤ 4 ∧ 0 ≤ t.2.2 ∧ t.2.2 ≤ 4 ∧ y = r * s - p + t.2.1 ∧ x = c * s - p + t.2.2 := by
  unfold winW at h
  split at h
  · rename_i hok
    obtain ⟨b1, b2, b3, b4, b5, b6, b7, b8, b9⟩ := outW_bound hok.1
    obtain ⟨i, j, hi, hj, h1, h2, rfl⟩ := Wn.mem_win.1 h
    exact ⟨_, _, h1.1, h1.2, h2.1, h2.2, rfl, by simp, by show (i : Int) ≤ 4; omega, by simp, by show (j : Int) ≤ 4; omega, rfl, rfl⟩
  · simp at h
theorem winOk_turn {rows cols r c k s p : Int} : winOk cols rows c r k s p ↔ winOk rows cols r c k s p := by
  unfold winOk; omega
theorem winW_length (rows cols r c k s p : Int) : (winW cols rows c r k s p).length = (winW rows cols r c k s p).length := by
  unfold winW
  by_cases h : winOk rows cols r c k s p
  · rw [if_pos h, if_pos (winOk_turn.2 h), Wn.length_win_eq, Wn.length_win_eq, Nat.mul_comm]
  · rw [if_neg h, if_neg (fun g => h (winOk_turn.1 g))]
theorem winW_small (rows cols r c k s p : Int) : (winW rows cols r c k s p).length ≤ 25 := by
  unfold winW
  split
  · rename_i hok
    obtain ⟨b1, b2, b3, b4, b5, b6, b7, b8, b9⟩ := outW_bound hok.1
    have := Wn.length_win rows cols (r * s - p) (c * s - p) k.toNat k.toNat
    have := Nat.mul_le_mul (show k.toNat ≤ 5 by omega) (show k.toNat ≤ 5 by omega)
    omega
  · simp
theorem winW_count {rows cols r c k s p : Int} {t : Int × Int × Int} (h : t ∈ winW rows cols r c k s p) : ((winW rows cols r c k s p).map Wn.key).count (Wn.key t) = 1 := by
  unfold winW at h ⊢
  split at h
  · rename_i hok
    rw [if_pos hok]
    exact Wn.count_key h
  · simp at h
/-- A place of the window turned, turned back. -/
theorem winW_turn {rows cols r c k s p : Int} (hr : 1 ≤ rows) (hc : 1 ≤ cols) {t : Int × Int × Int} (h : t ∈ winW cols rows c r k s p) : (t.1 % rows * cols + t.1 / rows, t.2.2, t.2.1) ∈ winW rows cols r c k s p := by
  unfold winW at h ⊢
  split at h
  · rename_i hok
    rw [if_pos (winOk_turn.1 hok)]
    obtain ⟨i, j, hi, hj, h1, h2, rfl⟩ := Wn.mem_win.1 h
    refine Wn.mem_win.2 ⟨j, i, hj, hi, h2, h1, ?_⟩
    have e1 : ((c * s - p + i) * rows + (r * s - p + j)) % rows = r * s - p + j := by
      rw [Int.add_comm, Int.add_mul_emod_self_right]
      exact Int.emod_eq_of_lt h2.1 (by omega)
    have e2 : ((c * s - p + i) * rows + (r * s - p + j)) / rows = c * s - p + i := by
      rw [Int.add_comm, Int.add_mul_ediv_right _ _ (by omega), Int.ediv_eq_zero_of_lt h2.1 (by omega)]
      omega
    show (((c * s - p + i) * rows + (r * s - p + j)) % rows * cols + ((c * s - p + i) * rows + (r * s - p + j)) / rows, (j : Int), (i : Int)) = _
    rw [e1, e2]
  · simp at h
end Go.Proofs.Ytmebchgjofpepaa
