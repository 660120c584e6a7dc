/-
  The greatest of a window, in plain numbers.
-/
import Derived.Test.YtaijiihlkcbdhaaPoolOnePlain
import Derived.Test.YtaijiihlkcbdhaaBackPlain
namespace Go.Proofs.Ytaijiihlkcbdhaa
open Go.RowKit
set_option linter.unusedVariables false
namespace Sh
theorem szTo_of : ∀ (l : List Int) (n : Int), 1 ≤ n → (∀ x ∈ l, 1 ≤ x ∧ x ≤ 4096) → n * prod l ≤ 8192 → szTo n l = n * prod l
  | [], n, _, _, _ => by simp [szTo, prod]
  | x :: l, n, h1, hx, hb => by
    have x1 := hx x (by simp)
    have p1 := prod_pos l fun y hy => (hx y (by simp [hy])).1
    rw [prod, ← Int.mul_assoc] at hb ⊢
    have m1 : 1 ≤ n * x := by
      have := Int.mul_le_mul h1 x1.1 (by omega) (by omega)
      omega
    have m2 : n * x ≤ n * x * prod l := by
      have := Int.mul_le_mul_of_nonneg_left p1 (show 0 ≤ n * x by omega)
      omega
    rw [szTo_yes (by omega), szTo_of l (n * x) m1 (fun y hy => hx y (by simp [hy])) hb]
theorem size_of {d : List Int} (l1 : 1 ≤ d.length) (l4 : d.length ≤ 4) (hx : ∀ x ∈ d, 1 ≤ x ∧ x ≤ 4096) (hb : prod d ≤ 8192) : size d = prod d := by
  unfold size
  rw [if_neg (by omega), szTo_of d 1 (by omega) hx (by omega), Int.one_mul]
end Sh
namespace T
/-- How many windows there are: as many as the shape that comes out says; no more than numbers came. -/
theorem out_size {d : List Int} {e : Int} {z : List Int} {k s : Int} (ht : may d e z) (ho : overOk d k s) : Sh.size (outDims d k s) = count d k s ∧ 0 < count d k s ∧ count d k s ≤ 8192 ∧ (rowsOf d k s : Int) ≤ d.getD 2 0 ∧ (colsOf d k s : Int) ≤ d.getD 3 0 := by
  obtain ⟨f1, f2, f3, f4, f5, f6, f7, f8, f9, f10, f11, f12, f13⟩ := facts ht ho
  obtain ⟨r1, r2, k1, k2, s1, s2, pr, _⟩ := outW_fit (show 1 ≤ outW (d.getD 2 0) k s 0 by omega)
  obtain ⟨c1, c2, _, _, _, _, qc, _⟩ := outW_fit (show 1 ≤ outW (d.getD 3 0) k s 0 by omega)
  have hpr : (rowsOf d k s : Int) ≤ d.getD 2 0 := by omega
  have hqc : (colsOf d k s : Int) ≤ d.getD 3 0 := by omega
  have e1 : (rowsOf d k s : Int) * colsOf d k s ≤ d.getD 2 0 * d.getD 3 0 := Int.mul_le_mul hpr hqc (by omega) (by omega)
  have e2 : (planes d : Int) * ((rowsOf d k s : Int) * colsOf d k s) ≤ planes d * (d.getD 2 0 * d.getD 3 0) := Int.mul_le_mul_of_nonneg_left e1 (by omega)
  rw [← Int.mul_assoc (planes d : Int) (d.getD 2 0), ← f8] at e2
  have e3 : ((count d k s : Nat) : Int) = (planes d : Int) * ((rowsOf d k s : Int) * colsOf d k s) := by unfold count; push_cast; rfl
  have hprod : Sh.prod (outDims d k s) = count d k s := by
    unfold outDims
    simp only [Sh.prod, Int.mul_one]
    rw [e3, ← f5, Int.mul_assoc]
  have hle : count d k s ≤ 8192 := by omega
  have m1 := Nat.mul_pos f3 f4
  have m2 : 0 < count d k s := Nat.mul_pos f7 m1
  have my := Sh.may_of ht.1
  have d4 := ho.1
  have g0 := my.get (show 0 < d.length by omega)
  have g1 := my.get (show 1 < d.length by omega)
  have g2 := my.get (show 2 < d.length by omega)
  have g3 := my.get (show 3 < d.length by omega)
  refine ⟨?_, m2, hle, hpr, hqc⟩
  rw [Sh.size_of (by simp [outDims]) (by simp [outDims]) (fun x hx => ?_) (by rw [hprod]; omega), hprod]
  simp only [outDims, List.mem_cons, List.not_mem_nil, or_false] at hx
  rcases hx with rfl | rfl | rfl | rfl <;> omega
/-- A number's place among the windows. -/
theorem at_out {d : List Int} {e : Int} {z : List Int} {k s : Int} (ht : may d e z) (ho : overOk d k s) {j : Nat} (hj : j < count d k s) :
    ∃ A0 A1 : Int, Sh.digits (Sh.strides (outDims d k s)) j = [A0, A1, ((j % (rowsOf d k s * colsOf d k s) / colsOf d k s : Nat) : Int), ((j % (rowsOf d k s * colsOf d k s) % colsOf d k s : Nat) : Int)] ∧ A0 * d.getD 1 0 + A1 = ((j / (rowsOf d k s * colsOf d k s) : Nat) : Int) ∧
      0 ≤ A0 ∧ A0 ≤ 8192 ∧ 0 ≤ A1 ∧ A1 ≤ 8192 ∧ 0 ≤ A0 * d.getD 1 0 ∧ A0 * d.getD 1 0 ≤ 8192 := by
  obtain ⟨f1, f2, f3, f4, f5, f6, f7, f8, f9, f10, f11, f12, f13⟩ := facts ht ho
  obtain ⟨_, _, c8, _, _⟩ := out_size ht ho
  have hd1 := f11
  have hb1 : d.getD 1 0 ≤ 8192 := by
    have my := Sh.may_of ht.1
    have := my.get (show 1 < d.length by rw [ho.1]; omega)
    omega
  have hM : ((rowsOf d k s * colsOf d k s : Nat) : Int) = (rowsOf d k s : Int) * colsOf d k s := by push_cast; rfl
  have hM1 : 0 < rowsOf d k s * colsOf d k s := Nat.mul_pos f3 f4
  have hst : Sh.strides (outDims d k s) = [d.getD 1 0 * ((rowsOf d k s : Int) * ((colsOf d k s : Int) * 1)), (rowsOf d k s : Int) * ((colsOf d k s : Int) * 1), (colsOf d k s : Int) * 1, 1] := rfl
  rw [hst, Int.mul_one, ← hM]
  generalize rowsOf d k s * colsOf d k s = M at *
  generalize colsOf d k s = Q at *
  generalize d.getD 1 0 = b at *
  have hj8 : (j : Int) ≤ 8192 := by omega
  have hbM : 0 < b * (M : Int) := Int.mul_pos (by omega) (by omega)
  have q0 : 0 ≤ (j : Int) / (b * M) := Int.ediv_nonneg (by omega) (by omega)
  have e0 := Int.mul_ediv_add_emod (j : Int) (b * M)
  have r0 := Int.emod_nonneg (j : Int) (show b * (M : Int) ≠ 0 by omega)
  have r1 := Int.emod_lt_of_pos (j : Int) hbM
  have e1 := Int.mul_ediv_add_emod ((j : Int) % (b * M)) M
  have r2 := Int.emod_nonneg ((j : Int) % (b * M)) (show (M : Int) ≠ 0 by omega)
  have r3 := Int.emod_lt_of_pos ((j : Int) % (b * M)) (show (0 : Int) < M by omega)
  have q1 : 0 ≤ (j : Int) % (b * M) / M := Int.ediv_nonneg r0 (by omega)
  have e2 : (j : Int) % (b * M) % M = (j : Int) % M := Int.emod_emod_of_dvd _ ⟨b, Int.mul_comm _ _⟩
  have hq : (j : Int) / (b * M) * b + (j : Int) % (b * M) / M = (j : Int) / M := by
    have e3 : (j : Int) = M * ((j : Int) / (b * M) * b + (j : Int) % (b * M) / M) + (j : Int) % (b * M) % M := by
      rw [Int.mul_add, Int.mul_comm ((j : Int) / (b * M)) b, ← Int.mul_assoc, Int.mul_comm (M : Int) b]
      omega
    have := Int.ediv_emod_unique (a := (j : Int)) (b := M) (r := (j : Int) % (b * M) % M) (q := (j : Int) / (b * M) * b + (j : Int) % (b * M) / M) (by omega)
    exact (this.2 ⟨by omega, r2, r3⟩).1.symm
  have hqM : (j : Int) / M ≤ 8192 := Int.ediv_le_of_le_mul (by omega) (by
    have := Int.mul_le_mul_of_nonneg_left (show (1 : Int) ≤ M by omega) (show (0 : Int) ≤ 8192 by omega)
    omega)
  have hA : 0 ≤ (j : Int) / (b * M) * b := Int.mul_nonneg q0 (by omega)
  have hA2 : (j : Int) / (b * M) ≤ (j : Int) / (b * M) * b := by
    have := Int.mul_le_mul_of_nonneg_left hd1 q0
    omega
  refine ⟨(j : Int) / (b * M), (j : Int) % (b * M) / M, ?_, by rw [hq]; push_cast; rfl, q0, by omega, q1, by omega, hA, by omega⟩
  show [(j : Int) / (b * M), (j : Int) % (b * M) / M, (j : Int) % (b * M) % M / Q, (j : Int) % (b * M) % M % Q / 1] = _
  rw [e2, Int.ediv_one]
  push_cast
  rfl
/-- The number of a window's element. -/
def zAt (R C s : Int) (P Q j : Nat) (r c : Nat) : Int := (((j / (P * Q) : Nat) : Int) * R + ((j % (P * Q) / Q : Nat) : Int) * s + r) * C + ((j % (P * Q) % Q : Nat) : Int) * s + c
theorem mem_wix {R C k s : Int} {P Q j : Nat} (hP : outW R k s 0 = P) (hQ : outW C k s 0 = Q) (hP0 : 0 < P) (hQ0 : 0 < Q) (x : Int) : x ∈ wix R C k s P Q j ↔ ∃ r c : Nat, r < k.toNat ∧ c < k.toNat ∧ x = zAt R C s P Q j r c := by
  have he : ∀ r c : Nat, ((j / (P * Q) : Nat) : Int) * R * C + ((((j % (P * Q) / Q : Nat) : Int) * s + r) * C + (((j % (P * Q) % Q : Nat) : Int) * s + c)) = zAt R C s P Q j r c := by
    intro r c
    unfold zAt
    generalize ((j / (P * Q) : Nat) : Int) = n
    generalize ((j % (P * Q) / Q : Nat) : Int) * s = y
    rw [Int.add_assoc (n * R) y, Int.add_mul (n * R)]
    omega
  rw [wix_full hP hQ hP0 hQ0]
  simp only [List.mem_flatMap, List.mem_map, List.mem_range]
  constructor
  · rintro ⟨r, hr, c, hc, rfl⟩
    exact ⟨r, c, hr, hc, he r c⟩
  · rintro ⟨r, c, hr, hc, rfl⟩
    exact ⟨r, hr, c, hc, he r c⟩
theorem best_ge (D : List Int) : ∀ (L : List Int) (b : Int), D.getD b.toNat 0 ≤ D.getD (best D b L).toNat 0 ∧ ∀ x ∈ L, D.getD x.toNat 0 ≤ D.getD (best D b L).toNat 0
  | [], b => ⟨Int.le_refl _, fun x hx => by simp at hx⟩
  | a :: L, b => by
    have e : best D b (a :: L) = best D (if D.getD b.toNat 0 < D.getD a.toNat 0 then a else b) L := rfl
    rw [e]
    have h := best_ge D L (if D.getD b.toNat 0 < D.getD a.toNat 0 then a else b)
    refine ⟨?_, fun x hx => ?_⟩
    · have := h.1
      split at this <;> split <;> omega
    · rcases List.mem_cons.1 hx with rfl | hx
      · have := h.1
        split at this <;> split <;> omega
      · exact h.2 x hx
/-- The greatest is one of its window, and none of it is greater. -/
theorem top_law {d : List Int} {e : Int} {z : List Int} {k s : Int} (ht : may d e z) (ho : overOk d k s) {j : Nat} (hj : j < count d k s) :
    (∃ r c : Nat, r < k.toNat ∧ c < k.toNat ∧ (topOf d z k s).getD j 0 = zAt (d.getD 2 0) (d.getD 3 0) s (rowsOf d k s) (colsOf d k s) j r c) ∧
    ∀ r c : Nat, r < k.toNat → c < k.toNat → 0 ≤ zAt (d.getD 2 0) (d.getD 3 0) s (rowsOf d k s) (colsOf d k s) j r c ∧ zAt (d.getD 2 0) (d.getD 3 0) s (rowsOf d k s) (colsOf d k s) j r c < z.length ∧
      z.getD (zAt (d.getD 2 0) (d.getD 3 0) s (rowsOf d k s) (colsOf d k s) j r c).toNat 0 ≤ (maxOf d z k s).getD j 0 := by
  obtain ⟨f1, f2, f3, f4, f5, f6, f7, f8, f9, f10, f11, f12, f13⟩ := facts ht ho
  have htop := top_in (D := z) (N := planes d) f1 f2 f3 f4 hj
  have e1 : (topOf d z k s).getD j 0 = top z (d.getD 2 0) (d.getD 3 0) k s (rowsOf d k s) (colsOf d k s) j := by unfold topOf tops; rw [getD_map_range _ hj]
  have e2 : (maxOf d z k s).getD j 0 = z.getD (top z (d.getD 2 0) (d.getD 3 0) k s (rowsOf d k s) (colsOf d k s) j).toNat 0 := by unfold maxOf maxs; rw [getD_map_range _ hj]
  refine ⟨?_, fun r c hr hc => ?_⟩
  · rw [e1]
    exact (mem_wix f1 f2 f3 f4 _).1 htop.2.2
  · have hm := (mem_wix f1 f2 f3 f4 (zAt (d.getD 2 0) (d.getD 3 0) s (rowsOf d k s) (colsOf d k s) j r c)).2 ⟨r, c, hr, hc, rfl⟩
    have hM : 0 < rowsOf d k s * colsOf d k s := Nat.mul_pos f3 f4
    have hn : j / (rowsOf d k s * colsOf d k s) < planes d := Nat.div_lt_of_lt_mul (by rw [Nat.mul_comm]; exact hj)
    have hin := ix_in (R := d.getD 2 0) (C := d.getD 3 0) (k := k) (s := s) (Q := colsOf d k s) (i := j % (rowsOf d k s * colsOf d k s)) f12 f13 hn _ hm
    rw [e2, f8]
    exact ⟨hin.1, hin.2, (best_ge z _ _).2 _ hm⟩
end T
end Go.Proofs.Ytaijiihlkcbdhaa
