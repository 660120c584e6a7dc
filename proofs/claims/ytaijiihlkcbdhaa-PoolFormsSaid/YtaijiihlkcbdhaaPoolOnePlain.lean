/-
  Windows of one place; a whole window.
-/
import Derived.Test.YtaijiihlkcbdhaaPoolAll2
namespace Go.Proofs.Ytaijiihlkcbdhaa
open Go.RowKit
set_option linter.unusedVariables false
theorem Wn.row_full (rows cols y x : Int) (i k : Nat) (hy : 0 ≤ y + i) (hy2 : y + i < rows) (hx : 0 ≤ x) (hx2 : x + k ≤ cols) : ∀ m, m ≤ k → Wn.row rows cols y x i m = (List.range m).map (fun j : Nat => ((y + i) * cols + (x + j), (i : Int), (j : Int)))
  | 0, _ => by simp [Wn.row]
  | m + 1, h => by
    rw [Wn.row_succ, Wn.row_full rows cols y x i k hy hy2 hx hx2 m (by omega), List.range_succ, List.map_append]
    unfold Wn.cell
    rw [if_pos ⟨⟨by omega, by omega⟩, by omega, by omega⟩]
    rfl
theorem Wn.win_full (rows cols y x : Int) (n k : Nat) (hy : 0 ≤ y) (hy2 : y + n ≤ rows) (hx : 0 ≤ x) (hx2 : x + k ≤ cols) : ∀ m, m ≤ n → Wn.win rows cols y x m k = (List.range m).flatMap (fun i : Nat => (List.range k).map (fun j : Nat => ((y + i) * cols + (x + j), (i : Int), (j : Int))))
  | 0, _ => by simp [Wn.win]
  | m + 1, h => by
    rw [Wn.win_succ, Wn.win_full rows cols y x n k hy hy2 hx hx2 m (by omega), List.range_succ, List.flatMap_append, Wn.row_full rows cols y x m k (by omega) (by omega) hx hx2 k (Nat.le_refl _)]
    simp
namespace T
theorem wix_full {R C k s : Int} {P Q j : Nat} (hP : outW R k s 0 = P) (hQ : outW C k s 0 = Q) (hP0 : 0 < P) (hQ0 : 0 < Q) : wix R C k s P Q j = (List.range k.toNat).flatMap (fun i : Nat => (List.range k.toNat).map (fun q : Nat => ((j / (P * Q) : Nat) : Int) * R * C + ((((j % (P * Q) / Q : Nat) : Int) * s + i) * C + (((j % (P * Q) % Q : Nat) : Int) * s + q)))) := by
  have hM : 0 < P * Q := Nat.mul_pos hP0 hQ0
  have hi : j % (P * Q) < P * Q := Nat.mod_lt _ hM
  have hy : j % (P * Q) / Q < P := Nat.div_lt_of_lt_mul (by rw [Nat.mul_comm Q P]; exact hi)
  have hx : j % (P * Q) % Q < Q := Nat.mod_lt _ hQ0
  obtain ⟨r1, r2, k1, k2, s1, s2, _, fit1⟩ := outW_fit (show 1 ≤ outW R k s 0 by omega)
  obtain ⟨c1, c2, _, _, _, _, _, fit2⟩ := outW_fit (show 1 ≤ outW C k s 0 by omega)
  unfold wix ix
  generalize j % (P * Q) / Q = y at *
  generalize j % (P * Q) % Q = x at *
  have g1 := fit1 y (by omega) (by omega)
  have g2 := fit2 x (by omega) (by omega)
  have n1 := Int.mul_nonneg (show (0 : Int) ≤ y by omega) (show 0 ≤ s by omega)
  have n2 := Int.mul_nonneg (show (0 : Int) ≤ x by omega) (show 0 ≤ s by omega)
  obtain ⟨hok, _⟩ := winW_first hP hQ hy hx
  unfold winW
  rw [if_pos hok, Int.sub_zero, Int.sub_zero, Wn.win_full R C _ _ k.toNat k.toNat (by omega) (by omega) (by omega) (by omega) _ (Nat.le_refl _), List.map_flatMap]
  simp only [List.map_map, Function.comp_def]
theorem outW_one {n : Int} (h : 0 < outW n 1 1 0) : outW n 1 1 0 = n := by
  unfold outW at h ⊢
  split
  · omega
  · rename_i c
    rw [if_neg c] at h
    omega
theorem wix_one {R C : Int} {P Q j : Nat} (hP : outW R 1 1 0 = P) (hQ : outW C 1 1 0 = Q) (hP0 : 0 < P) (hQ0 : 0 < Q) : wix R C 1 1 P Q j = [(j : Int)] := by
  have eR := outW_one (n := R) (by omega)
  have eC := outW_one (n := C) (by omega)
  rw [wix_full hP hQ hP0 hQ0]
  obtain rfl : R = P := by omega
  obtain rfl : C = Q := by omega
  have h1 := Nat.div_add_mod j (P * Q)
  have h2 := Nat.div_add_mod (j % (P * Q)) Q
  have e : (((j / (P * Q) : Nat) : Int) * P * Q + ((((j % (P * Q) / Q : Nat) : Int) * 1 + (0 : Nat)) * Q + (((j % (P * Q) % Q : Nat) : Int) * 1 + (0 : Nat)))) = ((P * Q * (j / (P * Q)) + (Q * (j % (P * Q) / Q) + j % (P * Q) % Q) : Nat) : Int) := by
    push_cast
    rw [Int.mul_one, Int.mul_one, Int.add_zero, Int.add_zero, Int.mul_assoc, Int.mul_comm ((j : Int) / _), Int.mul_comm ((j : Int) % _ / _)]
  refine (congrArg (fun x : Int => [x]) e).trans ?_
  show [((P * Q * (j / (P * Q)) + (Q * (j % (P * Q) / Q) + j % (P * Q) % Q) : Nat) : Int)] = _
  rw [h2, h1]
theorem getD_map_range (f : Nat → Int) {n j : Nat} (h : j < n) : ((List.range n).map f).getD j 0 = f j := by
  rw [List.getD_eq_getElem?_getD, List.getElem?_map, List.getElem?_range h]
  rfl
theorem top_one {D : List Int} {R C : Int} {P Q j : Nat} (hP : outW R 1 1 0 = P) (hQ : outW C 1 1 0 = Q) (hP0 : 0 < P) (hQ0 : 0 < Q) : top D R C 1 1 P Q j = j := by
  unfold top
  rw [wix_one hP hQ hP0 hQ0]
  simp [best]
theorem count_one {d : List Int} {e : Int} {z : List Int} (ht : may d e z) (ho : overOk d 1 1) : count d 1 1 = z.length := by
  obtain ⟨f1, f2, f3, f4, f5, f6, f7, f8, _⟩ := facts ht ho
  have e1 := outW_one (n := d.getD 2 0) (by omega)
  have e2 := outW_one (n := d.getD 3 0) (by omega)
  unfold count
  have : ((planes d * (rowsOf d 1 1 * colsOf d 1 1) : Nat) : Int) = z.length := by
    rw [f8]
    push_cast
    rw [← f1, ← f2, e1, e2, Int.mul_assoc]
  exact Int.ofNat.inj this
theorem maxOf_one {d : List Int} {e : Int} {z : List Int} (ht : may d e z) (ho : overOk d 1 1) : maxOf d z 1 1 = z := by
  obtain ⟨f1, f2, f3, f4, _⟩ := facts ht ho
  unfold maxOf maxs
  rw [count_one ht ho]
  refine Sh.ext_getD (by simp) fun j hj => ?_
  simp at hj
  rw [getD_map_range _ hj, top_one f1 f2 f3 f4]
  rfl
theorem topOf_one {d : List Int} {e : Int} {z : List Int} (ht : may d e z) (ho : overOk d 1 1) : topOf d z 1 1 = (List.range z.length).map (fun j : Nat => (j : Int)) := by
  obtain ⟨f1, f2, f3, f4, _⟩ := facts ht ho
  unfold topOf tops
  rw [count_one ht ho]
  exact List.map_congr_left fun j _ => top_one f1 f2 f3 f4
theorem sumOf_one {d : List Int} {e : Int} {z : List Int} (ht : may d e z) (ho : overOk d 1 1) : sumOf d z 1 1 = z := by
  obtain ⟨f1, f2, f3, f4, _⟩ := facts ht ho
  unfold sumOf sums
  rw [count_one ht ho]
  refine Sh.ext_getD (by simp) fun j hj => ?_
  simp at hj
  rw [getD_map_range _ hj, wix_one f1 f2 f3 f4]
  show z.getD j 0 + 0 = _
  omega
theorem outDims_one {d : List Int} {e : Int} {z : List Int} (ht : may d e z) (ho : overOk d 1 1) : outDims d 1 1 = d := by
  obtain ⟨f1, f2, f3, f4, _⟩ := facts ht ho
  have e1 := outW_one (n := d.getD 2 0) (by omega)
  have e2 := outW_one (n := d.getD 3 0) (by omega)
  unfold outDims
  rw [← f1, ← f2, e1, e2]
  match d, ho.1 with
  | [a, b, c, f], _ => rfl
theorem len_tops {d z : List Int} {k s : Int} : (topOf d z k s).length = count d k s ∧ (maxOf d z k s).length = count d k s ∧ (sumOf d z k s).length = count d k s := by simp [topOf, maxOf, sumOf, tops, maxs, sums]
/-- Which they are: in the tensor, and the number there. -/
theorem topOf_in {d : List Int} {e : Int} {z : List Int} {k s : Int} (ht : may d e z) (ho : overOk d k s) {j : Nat} (hj : j < count d k s) :
    0 ≤ (topOf d z k s).getD j 0 ∧ (topOf d z k s).getD j 0 < z.length ∧ (maxOf d z k s).getD j 0 = z.getD ((topOf d z k s).getD j 0).toNat 0 := by
  obtain ⟨f1, f2, f3, f4, f5, f6, f7, f8, _⟩ := facts ht ho
  have := top_in (D := z) (N := planes d) f1 f2 f3 f4 hj
  unfold topOf maxOf tops maxs
  rw [getD_map_range _ hj, getD_map_range _ hj, f8]
  exact ⟨this.1, this.2.1, rfl⟩
end T
end Go.Proofs.Ytaijiihlkcbdhaa
