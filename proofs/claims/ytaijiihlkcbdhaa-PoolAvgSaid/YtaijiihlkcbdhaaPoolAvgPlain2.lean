/-
  PoolAvg's numbers.
-/
import Derived.Test.YtaijiihlkcbdhaaPoolAvgPlain
namespace Go.Proofs.Ytaijiihlkcbdhaa
open Go.RowKit
set_option linter.unusedVariables false
namespace T
/-- A square plane's lengths. -/
def sq (n : Nat) : List Int := [1, 1, (n : Int), (n : Int)]
theorem size_sq {n : Nat} (h1 : 1 ≤ n) (h2 : n ≤ 8) : Sh.size (sq n) = ((n * n : Nat) : Int) := by
  have h3 : n * n ≤ 64 := Nat.mul_le_mul h2 h2
  have hp : Sh.prod (sq n) = ((n * n : Nat) : Int) := by
    show 1 * (1 * ((n : Int) * ((n : Int) * 1))) = _
    simp
  rw [Sh.size_of (by simp [sq]) (by simp [sq]) (fun x hx => ?_) (by rw [hp]; omega), hp]
  simp only [sq, List.mem_cons, List.not_mem_nil, or_false] at hx
  omega
theorem may_sq {n : Nat} (h1 : 1 ≤ n) (h2 : n ≤ 8) {z : List Int} (hl : z.length = n * n) (hz : ¬ (-128 : Int) ∈ z) : may (sq n) 0 z := by
  have hs := size_sq h1 h2
  have h3 : 1 ≤ n * n := Nat.mul_le_mul h1 h1
  exact ⟨by omega, by rw [hs, hl], ⟨by omega, by omega⟩, hz⟩
theorem sum_const (D : List Int) (v : Int) : ∀ L : List Int, (∀ x ∈ L, D.getD x.toNat 0 = v) → sum D L = v * L.length
  | [], _ => by simp [sum]
  | a :: L, h => by
    show D.getD a.toNat 0 + sum D L = _
    rw [h a (by simp), sum_const D v L fun x hx => h x (by simp [hx]), List.length_cons]
    push_cast
    rw [Int.mul_add]
    omega
theorem count_sq {h k o : Nat} {s : Int} (ho : outW h k s 0 = o) : planes (sq h) = 1 ∧ rowsOf (sq h) k s = o ∧ colsOf (sq h) k s = o ∧ count (sq h) k s = o * o ∧ outDims (sq h) k s = sq o := by
  have e1 : rowsOf (sq h) k s = o := by
    show (outW (h : Int) k s 0).toNat = o
    rw [ho]
    exact Int.toNat_natCast o
  have e2 : colsOf (sq h) k s = o := e1
  refine ⟨rfl, e1, e2, ?_, ?_⟩
  · unfold count
    rw [e1, e2]
    show 1 * (o * o) = o * o
    omega
  · unfold outDims
    rw [e1, e2]
    rfl
/-- The means of a plane of one number. -/
theorem avg_sq {h k o : Nat} {s c : Int} (ho : outW h k s 0 = o) (h0 : 0 < o) (h1 : 1 ≤ h) (h2 : h ≤ 8) (c1 : -127 ≤ c) :
    may (sq h) 0 (List.replicate (h * h) c) ∧ overOk (sq h) k s ∧ (sumOf (sq h) (List.replicate (h * h) c) k s).length = o * o ∧ ∀ j, j < o * o → (sumOf (sq h) (List.replicate (h * h) c) k s).getD j 0 = c * ((k * k : Nat) : Int) := by
  obtain ⟨p1, p2, p3, p4, p5⟩ := count_sq ho
  have hov : overOk (sq h) k s := ⟨rfl, by show 0 < outW (h : Int) k s 0; rw [ho]; omega, by show 0 < outW (h : Int) k s 0; rw [ho]; omega⟩
  have hmay := may_sq h1 h2 (z := List.replicate (h * h) c) (by simp) (fun hm => by
    have := (List.mem_replicate.1 hm).2
    omega)
  refine ⟨hmay, hov, by rw [len_tops.2.2, p4], fun j hj => ?_⟩
  obtain ⟨f1, f2, f3, f4, f5, f6, f7, f8, f9, f10, f11, f12, f13⟩ := facts hmay hov
  have e : (sumOf (sq h) (List.replicate (h * h) c) k s).getD j 0 = sum (List.replicate (h * h) c) (wix ((sq h).getD 2 0) ((sq h).getD 3 0) k s (rowsOf (sq h) k s) (colsOf (sq h) k s) j) := by
    unfold sumOf sums
    rw [getD_map_range _ (by rw [p4]; exact hj)]
  rw [e, sum_const _ c, length_wix f1 f2 f3 f4]
  intro x hx
  have hM : 0 < rowsOf (sq h) k s * colsOf (sq h) k s := Nat.mul_pos f3 f4
  have hn : j / (rowsOf (sq h) k s * colsOf (sq h) k s) < planes (sq h) := by
    rw [p1, p2, p3, Nat.div_eq_of_lt hj]
    omega
  have hin := ix_in (R := (sq h).getD 2 0) (C := (sq h).getD 3 0) (k := k) (s := s) (Q := colsOf (sq h) k s) (i := j % (rowsOf (sq h) k s * colsOf (sq h) k s)) f12 f13 hn _ hx
  rw [← f8, List.length_replicate] at hin
  rw [List.getD_eq_getElem?_getD, List.getElem?_replicate, if_pos (by omega)]
  rfl
/-- One window's number is one, all others nought. -/
def unit (o a : Nat) : List Int := (List.replicate (o * o) 0).set a 1
theorem getD_unit {o a : Nat} (ha : a < o * o) (j : Nat) : (unit o a).getD j 0 = if j = a then 1 else 0 := by
  unfold unit
  rw [getD_set, getD_zeros]
  by_cases c : a = j
  · rw [if_pos ⟨c, by simpa using ha⟩, if_pos c.symm]
  · rw [if_neg (fun g => c g.1), if_neg (fun g => c g.symm)]
/-- What goes back to one window. -/
theorem back_sq {h k o a : Nat} {s : Int} (ho : outW h k s 0 = o) (h0 : 0 < o) (h1 : 1 ≤ h) (h2 : h ≤ 8) (h3 : o ≤ 8) (ha : a < o * o) :
    aErr (sq o) 0 (unit o a) (sq h) k s = 0 ∧ (aData (sq o) 0 (unit o a) (sq h) k s).length = h * h ∧ (aData (sq o) 0 (unit o a) (sq h) k s).sum = ((k * k : Nat) : Int) ∧
    ∀ i, i < h * h → (aData (sq o) 0 (unit o a) (sq h) k s).getD i 0 = if (0 ≤ (i : Int) / h - ((a / o : Nat) : Int) * s ∧ (i : Int) / h - ((a / o : Nat) : Int) * s < k) ∧ (0 ≤ (i : Int) % h - ((a % o : Nat) : Int) * s ∧ (i : Int) % h - ((a % o : Nat) : Int) * s < k) then 1 else 0 := by
  obtain ⟨p1, p2, p3, p4, p5⟩ := count_sq ho
  have hs := size_sq h1 h2
  have hov : overOk (sq h) k s := ⟨rfl, by show 0 < outW (h : Int) k s 0; rw [ho]; omega, by show 0 < outW (h : Int) k s 0; rw [ho]; omega⟩
  have hmay : may (sq o) 0 (unit o a) := may_sq (by omega) h3 (by simp [unit]) (fun hm => by
    unfold unit at hm
    rcases List.mem_or_eq_of_mem_set hm with hm | hm
    · have := (List.mem_replicate.1 hm).2
      omega
    · omega)
  have hp : 1 ≤ h * h := Nat.mul_le_mul h1 h1
  have herr : aErr (sq o) 0 (unit o a) (sq h) k s = 0 := aErr_ok ⟨hmay, by omega⟩ ⟨hov, p5.symm⟩
  have hdat : aData (sq o) 0 (unit o a) (sq h) k s = puts (h * h) (backs (unit o a) (h : Int) (h : Int) k s o o (o * o)) := by
    unfold aData aBacks
    rw [if_pos herr, hs, Int.toNat_natCast, p2, p3, p4]
    rfl
  have hz : ∀ j, j ≠ a → (unit o a).getD j 0 = 0 := fun j hj => by rw [getD_unit ha, if_neg hj]
  have hz1 : (unit o a).getD a 0 = 1 := by rw [getD_unit ha, if_pos rfl]
  have hin : ∀ p ∈ backs (unit o a) (h : Int) (h : Int) k s o o (o * o), p.1.toNat < h * h := by
    intro p hp
    obtain ⟨j, hj, hp⟩ := List.mem_flatMap.1 hp
    obtain ⟨x, hx, rfl⟩ := List.mem_map.1 hp
    have hn : j / (o * o) < 1 := by rw [Nat.div_eq_of_lt (List.mem_range.1 hj)]; omega
    have hin := ix_in (R := (h : Int)) (C := (h : Int)) (k := (k : Int)) (s := s) (Q := o) (i := j % (o * o)) (by omega) (by omega) hn _ hx
    have e : ((1 : Nat) : Int) * (h : Int) * (h : Int) = ((h * h : Nat) : Int) := by push_cast; rw [Int.one_mul]
    rw [e] at hin
    show x.toNat < h * h
    omega
  refine ⟨herr, by rw [hdat, length_puts], ?_, fun i hi => ?_⟩
  · rw [hdat, sum_puts _ _ hin, sum_backs _ _ _ _ _ _ _ a hz, if_pos ha, hz1, length_wix ho ho h0 h0]
    omega
  · rw [hdat, getD_puts _ _ _ hi, hits_backs _ _ _ _ _ _ _ _ a hz, if_pos ha, hz1]
    exact hits_wix ho ho h0 h0 ha (by
      have : ((h * h : Nat) : Int) = (h : Int) * h := by push_cast; rfl
      omega)
end T
end Go.Proofs.Ytaijiihlkcbdhaa
