/-
  The sums of all windows, one behind the other.
-/
import Derived.Test.YtaijiihlkcbdhaaPoolAvgStep
namespace Go.Proofs.Ytaijiihlkcbdhaa
open Go.RowKit
set_option linter.unusedVariables false
namespace T
def sums (D : List Int) (R C k s : Int) (P Q n : Nat) : List Int := (List.range n).map (fun j => sum D (wix R C k s P Q j))
theorem sums_succ (D : List Int) (R C k s : Int) (P Q n : Nat) : sums D R C k s P Q (n + 1) = sums D R C k s P Q n ++ [sum D (wix R C k s P Q n)] := by simp [sums, List.range_succ]
end T
theorem AccAt.below {B ba : Nat} {od oe : Value} {n : Nat} {xs : List Int} {w w' : World} (h : AccAt B ba od oe n xs w) (hb : Below w.heap.size w w') : AccAt B ba od oe n xs w' := by
  obtain ⟨vd, h1, h2, h3⟩ := h
  exact ⟨vd, blk_below h1 hb, owned_below h2 hb, Nat.le_trans h3 hb.size⟩
theorem less_any (k : Int) (w : World) (h1 : 1 ≤ k) (h2 : k ≤ 5) : Calls Try.prog 28 #[.int .i64 k] w fun e w' => e = .returned (.int .i64 (k / 2 * 2)) ∧ w = w' := by
  have h3 : 0 ≤ k / 2 := by omega
  have h4 : k / 2 ≤ 2 := by omega
  go_enter Try.func28, Try.ntmps28
  go_wp2
  go_ret
  exact ⟨rfl, rfl⟩
theorem avgEach (w w5 : World) (b : Option Addr) (m k0 : Nat) (z : List Int) (R C k s : Int) (P Q N bx bo : Nat) (od oe x0 x1 : Value) (hP : outW R k s 0 = P) (hQ : outW C k s 0 = Q) (hP0 : 0 < P) (hQ0 : 0 < Q) (hN : N ≤ 8192) (hz : (m : Int) = N * R * C) (hm : m ≤ 8192)
    (h1 : RowAt .i8 w b m z) (hb : Below w.heap.size w w5) (hx : w5.heap[bx]? = some (.cells #[x0, x1, .slice b m k0] 25 (0, 0)))
    (ho : w5.heap[bo]? = some (.cells #[od, oe, .slice none 0 0] 33 (0, 0)))
    (hbo : w.heap.size ≤ bo) (hxo : bx ≠ bo) :
    Calls Try.prog 26 #[windows R C k s P Q, .int .i64 N, .func (.func 29) #[] #[.pointer (some ⟨bx, 0, none⟩), .pointer (some ⟨bo, 0, none⟩)]] w5 fun e w' => e = .returned (.tuple #[]) ∧
      AccAt (w5.heap.size + 1) bo od oe (N * (P * Q)) (T.sums z R C k s P Q (N * (P * Q))) w' ∧ Kept w5.heap.size (fun g => g = bo) w5 w' := by
  obtain ⟨r1, r2, _, _, _, _, pr, _⟩ := outW_fit (show 1 ≤ outW R k s 0 by omega)
  obtain ⟨c1, c2, _, _, _, _, qc, _⟩ := outW_fit (show 1 ≤ outW C k s 0 by omega)
  have lx := lt_of_block hx
  have lo := lt_of_block ho
  have hNPQ : N * (P * Q) ≤ 8192 := by
    have e1 : (P : Int) * Q ≤ R * C := Int.mul_le_mul (by omega) (by omega) (by omega) (by omega)
    have e2 : (N : Int) * ((P : Int) * Q) ≤ N * (R * C) := Int.mul_le_mul_of_nonneg_left e1 (by omega)
    rw [← Int.mul_assoc (N : Int) R C, ← hz] at e2
    have e3 : ((N * (P * Q) : Nat) : Int) = (N : Int) * ((P : Int) * Q) := by rw [Int.natCast_mul, Int.natCast_mul]
    omega
  have hb6 := below_alloc w5 (.cells #[.int .i64 R, .int .i64 C, .int .i64 k, .int .i64 s, .int .i64 P, .int .i64 Q] 54)
  have hnew := heap_alloc_new w5 (.cells #[.int .i64 R, .int .i64 C, .int .i64 k, .int .i64 s, .int .i64 P, .int .i64 Q] 54)
  have hs6 : (w5.alloc (.cells #[.int .i64 R, .int .i64 C, .int .i64 k, .int .i64 s, .int .i64 P, .int .i64 Q] 54)).heap.size = w5.heap.size + 1 := World.size_alloc _ _
  refine (each_any 29 #[.pointer (some ⟨bx, 0, none⟩), .pointer (some ⟨bo, 0, none⟩)]
    (fun n wr => AccAt (w5.heap.size + 1) bo od oe n (T.sums z R C k s P Q n) wr ∧ Kept (w5.heap.size + 1) (fun g => g = bo) (w5.alloc (.cells #[.int .i64 R, .int .i64 C, .int .i64 k, .int .i64 s, .int .i64 P, .int .i64 Q] 54)) wr)
    R C k s P Q N w5 hP hQ hP0 hQ0 hN (fun args w => by simp [go_sem]) ?_ ?_ ?_ ?_).mono ?_
  · exact ⟨⟨.slice none 0 0, blk_below ho hb6, World.ownsRow_nil _ _ _ _, by rw [hs6]; exact Nat.le_refl _⟩, rfl, rfl, rfl, Nat.le_refl _, fun _ _ _ => rfl⟩
  · rintro i wr ⟨_, hk⟩
    have h6 := (hk.block w5.heap.size (by omega) (by omega)).trans hnew
    refine ⟨by have := hk.size; omega, fun j hj => ?_⟩
    unfold World.cell?
    simp only [h6]
    rfl
  · rintro i w1 w2 ⟨hm1, hk⟩ hb'
    exact ⟨hm1.below hb', hk.below (by have := hk.size; omega) hb'⟩
  · intro n i a l c wr hn hi ⟨hm1, hk⟩ hrow
    have hpos : 0 < l := by rw [← hrow.len_eq]; exact ix_pos hP hQ hi hQ0
    have hidx : n * (P * Q) + i < N * (P * Q) := by
      have := Nat.mul_le_mul_right (P * Q) (show n + 1 ≤ N by omega)
      rw [Nat.succ_mul] at this
      omega
    have hx6 := (hk.block bx (by omega) (by omega)).trans (blk_below hx hb6)
    have hD : RowAt .i8 wr b m z := hk.row (w0 := w) (hb.step hb6) (by have := hb.size; omega) (fun g hg => by rw [hg]; exact hbo) h1
    have hl25 : l ≤ 25 := by
      rw [← hrow.len_eq]
      unfold ix
      rw [List.length_map]
      exact winW_small _ _ _ _ _ _ _
    have hstep := avgStep_any ((n * (P * Q) + i : Nat) : Int) a l c (ix R C k s Q n i) bx bo od oe b m k0 z (w5.heap.size + 1) (n * (P * Q) + i) (T.sums z R C k s P Q (n * (P * Q) + i)) wr hrow hl25 (newTensor hx6).2.2.1 hD (by rw [hz]; exact ix_in r1 c1 hn) hm1 (by omega) (by omega)
    refine hstep.mono ?_
    rintro e w' ⟨rfl, hm2, hk2⟩
    have et : T.sum z (T.wix R C k s P Q (n * (P * Q) + i)) = T.sum z (ix R C k s Q n i) := by rw [T.wix_eq R C k s P Q n i hi]
    refine ⟨rfl, ?_, hk.trans hk2⟩
    rw [T.sums_succ, et]
    exact hm2
  · rintro e w' ⟨rfl, hm2, hk2⟩
    refine ⟨rfl, hm2, hk2.os, hk2.tape, hk2.output, by have := hk2.size; omega, fun g hg hn => ?_⟩
    exact (hk2.block g (by omega) hn).trans (hb6.block g hg)
end Go.Proofs.Ytaijiihlkcbdhaa
