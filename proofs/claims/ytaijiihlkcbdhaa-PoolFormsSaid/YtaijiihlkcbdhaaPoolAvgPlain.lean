/-
  The mean of a plane of one number, and what goes back to one window, in plain numbers.
-/
import Derived.Test.YtaijiihlkcbdhaaPoolMaxPlain2
namespace Go.Proofs.Ytaijiihlkcbdhaa
open Go.RowKit
set_option linter.unusedVariables false
namespace T
/-- What is put upon one place. -/
def hits (i : Nat) (ps : List (Int × Int)) : Int := (ps.map (fun p => if p.1.toNat = i then p.2 else 0)).sum
theorem hits_append (i : Nat) (a b : List (Int × Int)) : hits i (a ++ b) = hits i a + hits i b := by simp [hits, List.sum_append]
theorem getD_foldl_put (i : Nat) : ∀ (ps : List (Int × Int)) (l : List Int), i < l.length → (ps.foldl put l).getD i 0 = l.getD i 0 + hits i ps
  | [], l, _ => by simp [hits]
  | p :: ps, l, h => by
    rw [List.foldl_cons, getD_foldl_put i ps _ (by rw [length_put]; exact h), getD_put]
    unfold hits
    rw [List.map_cons, List.sum_cons]
    by_cases c : p.1.toNat = i
    · rw [if_pos ⟨c, h⟩, if_pos c]; omega
    · rw [if_neg (fun g => c g.1), if_neg c]; omega
theorem getD_puts (n i : Nat) (ps : List (Int × Int)) (h : i < n) : (puts n ps).getD i 0 = hits i ps := by
  unfold puts
  rw [getD_foldl_put i ps _ (by simpa using h), getD_zeros]
  omega
theorem hits_zero (i : Nat) (L : List Int) : hits i (L.map (fun x => (x, 0))) = 0 := by
  induction L with
  | nil => rfl
  | cons a L ih =>
    have e : hits i ((a :: L).map (fun x => (x, (0 : Int)))) = (if a.toNat = i then 0 else 0) + hits i (L.map (fun x => (x, (0 : Int)))) := by simp [hits]
    rw [e, ih]
    split <;> rfl
/-- Where all but one window's number is nought. -/
theorem hits_backs (z : List Int) (R C k s : Int) (P Q i a : Nat) (h0 : ∀ j, j ≠ a → z.getD j 0 = 0) : ∀ n, hits i (backs z R C k s P Q n) = if a < n then hits i ((wix R C k s P Q a).map (fun x => (x, z.getD a 0))) else 0
  | 0 => by simp [backs, hits]
  | n + 1 => by
    rw [backs_succ, hits_append, hits_backs z R C k s P Q i a h0 n]
    by_cases c : n = a
    · subst c
      rw [if_neg (by omega), if_pos (by omega), Int.zero_add]
    · rw [h0 n c, hits_zero]
      by_cases c2 : a < n
      · rw [if_pos c2, if_pos (by omega), Int.add_zero]
      · rw [if_neg c2, if_neg (by omega), Int.add_zero]
theorem sum_backs (z : List Int) (R C k s : Int) (P Q a : Nat) (h0 : ∀ j, j ≠ a → z.getD j 0 = 0) : ∀ n, ((backs z R C k s P Q n).map (·.2)).sum = if a < n then z.getD a 0 * (wix R C k s P Q a).length else 0
  | 0 => by simp [backs]
  | n + 1 => by
    rw [backs_succ, List.map_append, List.sum_append, sum_backs z R C k s P Q a h0 n]
    have e : ∀ (L : List Int) (v : Int), ((L.map (fun x => (x, v))).map (·.2)).sum = v * L.length := by
      intro L v
      induction L with
      | nil => simp
      | cons x L ih =>
        rw [List.map_cons, List.map_cons, List.sum_cons, ih, List.length_cons]
        show v + v * L.length = v * ((L.length + 1 : Nat) : Int)
        push_cast
        rw [Int.mul_add]
        omega
    rw [e]
    by_cases c : n = a
    · subst c
      rw [if_neg (by omega), if_pos (by omega), Int.zero_add]
    · rw [h0 n c, Int.zero_mul]
      by_cases c2 : a < n
      · rw [if_pos c2, if_pos (by omega), Int.add_zero]
      · rw [if_neg c2, if_neg (by omega), Int.add_zero]
theorem sum_one (y q v : Int) : ∀ k : Nat, ((List.range k).map (fun r : Nat => if y + (r : Int) = q then v else 0)).sum = if 0 ≤ q - y ∧ q - y < k then v else 0
  | 0 => by
    rw [if_neg (by omega)]
    rfl
  | k + 1 => by
    rw [List.range_succ, List.map_append, List.sum_append, sum_one y q v k]
    simp only [List.map_cons, List.map_nil, List.sum_cons, List.sum_nil]
    by_cases c : y + (k : Int) = q
    · rw [if_neg (by omega), if_pos c, if_pos (by omega)]; omega
    · rw [if_neg c]
      by_cases c2 : 0 ≤ q - y ∧ q - y < k
      · rw [if_pos c2, if_pos (by omega)]; omega
      · rw [if_neg c2, if_neg (by omega)]; omega
theorem hits_flat (i : Nat) (f : Nat → List (Int × Int)) : ∀ l : List Nat, hits i (l.flatMap f) = (l.map (fun r => hits i (f r))).sum
  | [] => rfl
  | a :: l => by rw [List.flatMap_cons, hits_append, hits_flat i f l, List.map_cons, List.sum_cons]
/-- How often a place is among one window's elements: once, where it lies in the window. -/
theorem hits_wix {R C s : Int} {k P Q a i : Nat} (hP : outW R k s 0 = P) (hQ : outW C k s 0 = Q) (hP0 : 0 < P) (hQ0 : 0 < Q) (ha : a < P * Q) (hi : (i : Int) < R * C) :
    hits i ((wix R C k s P Q a).map (fun x => (x, 1))) = if (0 ≤ (i : Int) / C - ((a / Q : Nat) : Int) * s ∧ (i : Int) / C - ((a / Q : Nat) : Int) * s < k) ∧ (0 ≤ (i : Int) % C - ((a % Q : Nat) : Int) * s ∧ (i : Int) % C - ((a % Q : Nat) : Int) * s < k) then 1 else 0 := by
  obtain ⟨c1, c2, k1, k2, s1, s2, _, hfit⟩ := outW_fit (show 1 ≤ outW C k s 0 by omega)
  rw [wix_full hP hQ hP0 hQ0, Nat.div_eq_of_lt ha, Nat.mod_eq_of_lt ha, List.map_flatMap]
  rw [hits_flat]
  have hX := hfit ((a % Q : Nat) : Int) (Int.natCast_nonneg _) (by rw [hQ]; exact Int.ofNat_lt.2 (Nat.mod_lt a hQ0))
  have hX0 : 0 ≤ ((a % Q : Nat) : Int) * s := Int.mul_nonneg (Int.natCast_nonneg _) (by omega)
  have hY0 : 0 ≤ ((a / Q : Nat) : Int) * s := Int.mul_nonneg (Int.natCast_nonneg _) (by omega)
  generalize ((a / Q : Nat) : Int) * s = y at *
  generalize ((a % Q : Nat) : Int) * s = x at *
  have q0 := Int.emod_nonneg (i : Int) (show C ≠ 0 by omega)
  have q1 := Int.emod_lt_of_pos (i : Int) (show 0 < C by omega)
  have q2 := Int.mul_ediv_add_emod (i : Int) C
  have hone : ∀ r : Nat, hits i (((List.range k).map (fun q : Nat => ((0 : Nat) : Int) * R * C + ((y + (r : Int)) * C + (x + (q : Int))))).map (fun x => (x, (1 : Int)))) = if y + (r : Int) = (i : Int) / C then (if 0 ≤ (i : Int) % C - x ∧ (i : Int) % C - x < k then 1 else 0) else 0 := by
    intro r
    unfold hits
    rw [List.map_map, List.map_map]
    by_cases c : y + (r : Int) = (i : Int) / C
    · rw [if_pos c, ← sum_one x ((i : Int) % C) 1 k]
      refine congrArg List.sum (List.map_congr_left fun q hq => ?_)
      have hq2 := List.mem_range.1 hq
      show (if (((0 : Nat) : Int) * R * C + ((y + (r : Int)) * C + (x + (q : Int)))).toNat = i then (1 : Int) else 0) = _
      have e : ((0 : Nat) : Int) * R * C + ((y + (r : Int)) * C + (x + (q : Int))) = C * ((i : Int) / C) + (x + (q : Int)) := by
        rw [c, Int.mul_comm C]
        simp
      have hn : 0 ≤ C * ((i : Int) / C) := Int.mul_nonneg (by omega) (Int.ediv_nonneg (by omega) (by omega))
      rw [e]
      by_cases c3 : x + (q : Int) = (i : Int) % C
      · rw [if_pos c3, if_pos (by omega)]
      · rw [if_neg c3, if_neg (by omega)]
    · rw [if_neg c]
      have : ∀ q ∈ List.range k, (((fun p : Int × Int => if p.1.toNat = i then p.2 else 0) ∘ (fun x => (x, (1 : Int)))) ∘ (fun q : Nat => ((0 : Nat) : Int) * R * C + ((y + (r : Int)) * C + (x + (q : Int))))) q = 0 := by
        intro q hq
        have hq2 := List.mem_range.1 hq
        show (if (((0 : Nat) : Int) * R * C + ((y + (r : Int)) * C + (x + (q : Int)))).toNat = i then (1 : Int) else 0) = 0
        refine if_neg fun h => c ?_
        have hn : 0 ≤ (y + (r : Int)) * C := Int.mul_nonneg (by omega) (by omega)
        have e2 : (i : Int) = C * (y + (r : Int)) + (x + (q : Int)) := by
          have : ((0 : Nat) : Int) * R * C = 0 := by simp
          rw [this, Int.mul_comm _ C] at h
          rw [Int.mul_comm _ C] at hn
          omega
        have := (Int.ediv_emod_unique (a := (i : Int)) (b := C) (r := x + (q : Int)) (q := y + (r : Int)) (by omega)).2 ⟨by omega, by omega, by omega⟩
        exact this.1.symm
      rw [show (List.range k).map _ = (List.range k).map (fun _ => (0 : Int)) from List.map_congr_left this]
      have : ∀ k : Nat, ((List.range k).map (fun _ => (0 : Int))).sum = 0 := by
        intro k
        induction k with
        | zero => rfl
        | succ k ih => rw [List.range_succ, List.map_append, List.sum_append, ih]; rfl
      exact this k
  rw [Int.toNat_natCast]
  rw [show (List.range k).map _ = (List.range k).map (fun r : Nat => if y + (r : Int) = (i : Int) / C then (if 0 ≤ (i : Int) % C - x ∧ (i : Int) % C - x < k then (1 : Int) else 0) else 0) from List.map_congr_left fun r _ => hone r]
  rw [sum_one]
  by_cases c : 0 ≤ (i : Int) / C - y ∧ (i : Int) / C - y < k
  · rw [if_pos c]
    by_cases c2 : 0 ≤ (i : Int) % C - x ∧ (i : Int) % C - x < k
    · rw [if_pos c2, if_pos ⟨c, c2⟩]
    · rw [if_neg c2, if_neg (fun h => c2 h.2)]
  · rw [if_neg c, if_neg (fun h => c h.1)]
theorem length_wix {R C s : Int} {k P Q a : Nat} (hP : outW R k s 0 = P) (hQ : outW C k s 0 = Q) (hP0 : 0 < P) (hQ0 : 0 < Q) : (wix R C k s P Q a).length = k * k := by
  rw [wix_full hP hQ hP0 hQ0, Int.toNat_natCast]
  have : ∀ (f : Nat → Nat → Int) (n : Nat), ((List.range n).flatMap (fun i => (List.range k).map (f i))).length = n * k := by
    intro f n
    induction n with
    | zero => simp
    | succ n ih => rw [List.range_succ, List.flatMap_append, List.length_append, ih]; simp [Nat.succ_mul]
  exact this _ k
end T
end Go.Proofs.Ytaijiihlkcbdhaa
