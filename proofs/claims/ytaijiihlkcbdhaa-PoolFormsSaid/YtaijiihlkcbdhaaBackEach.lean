/-
  What goes back to all windows, one behind the other.
-/
import Derived.Test.YtaijiihlkcbdhaaBackStep
namespace Go.Proofs.Ytaijiihlkcbdhaa
open Go.RowKit
set_option linter.unusedVariables false
namespace T
/-- The places of the windows' elements, each with its window's number. -/
def backs (z : List Int) (R C k s : Int) (P Q n : Nat) : List (Int × Int) := (List.range n).flatMap (fun i => (wix R C k s P Q i).map (fun x => (x, z.getD i 0)))
theorem backs_succ (z : List Int) (R C k s : Int) (P Q n : Nat) : backs z R C k s P Q (n + 1) = backs z R C k s P Q n ++ (wix R C k s P Q n).map (fun x => (x, z.getD n 0)) := by simp [backs, List.range_succ]
theorem length_backs (z : List Int) (R C k s : Int) (P Q : Nat) : ∀ n, (backs z R C k s P Q n).length ≤ 25 * n
  | 0 => by simp [backs]
  | n + 1 => by
    rw [backs_succ, List.length_append, List.length_map]
    have h1 := length_backs z R C k s P Q n
    have h2 : (wix R C k s P Q n).length ≤ 25 := by
      unfold wix ix
      rw [List.length_map]
      exact winW_small _ _ _ _ _ _ _
    omega
theorem backs_bound {z : List Int} (h : ∀ x ∈ z, (Lit.int .i8 x).wf = true) {R C k s : Int} {P Q n : Nat} : ∀ p ∈ backs z R C k s P Q n, -128 ≤ p.2 ∧ p.2 ≤ 128 := by
  intro p hp
  obtain ⟨i, _, hp⟩ := List.mem_flatMap.1 hp
  obtain ⟨x, _, rfl⟩ := List.mem_map.1 hp
  have := getD8 h i
  show -128 ≤ z.getD i 0 ∧ z.getD i 0 ≤ 128
  omega
end T
theorem SumAt.below {B ba bd n : Nat} {od oe : Value} {ps : List (Int × Int)} {w w' : World} (h : SumAt B ba bd od oe n ps w) (hb : Below w.heap.size w w') : SumAt B ba bd od oe n ps w' :=
  ⟨blk_below h.1 hb, owned_below h.2.1 hb, h.2.2⟩
theorem Kept.mono {B B' : Nat} {S : Nat → Prop} {w w' : World} (h : Kept B S w w') (hB : B' ≤ B) : Kept B' S w w' := ⟨h.os, h.tape, h.output, h.size, fun g hg hn => h.block g (Nat.lt_of_lt_of_le hg hB) hn⟩
set_option maxHeartbeats 1000000 in
theorem backEach (w5 : World) (b : Option Addr) (m k0 : Nat) (z : List Int) (R C k s : Int) (P Q N bx bo bd n B : Nat) (od oe x0 x1 : Value) (hP : outW R k s 0 = P) (hQ : outW C k s 0 = Q) (hP0 : 0 < P) (hQ0 : 0 < Q) (hN : N ≤ 8192) (hz : m = N * (P * Q)) (hm : m ≤ 8192) (hn : (n : Int) = N * R * C) (hn8 : n ≤ 8192)
    (h1 : RowAt .i8 w5 b m z) (hx : w5.heap[bx]? = some (.cells #[x0, x1, .slice b m k0] 25 (0, 0))) (hm0 : SumAt B bo bd od oe n [] w5) (hxd : bx ≠ bd) (hbd : bd < w5.heap.size) (hb1 : ∀ x, b = some x → x.block ≠ bd ∧ x.block < w5.heap.size) :
    Calls Try.prog 26 #[windows R C k s P Q, .int .i64 N, .func (.func 37) #[] #[.pointer (some ⟨bo, 0, none⟩), .pointer (some ⟨bx, 0, none⟩)]] w5 fun e w' => e = .returned (.tuple #[]) ∧
      SumAt B bo bd od oe n (T.backs z R C k s P Q (N * (P * Q))) w' ∧ Kept w5.heap.size (fun g => g = bd) w5 w' := by
  obtain ⟨r1, r2, _, _, _, _, pr, _⟩ := outW_fit (show 1 ≤ outW R k s 0 by omega)
  obtain ⟨c1, c2, _, _, _, _, qc, _⟩ := outW_fit (show 1 ≤ outW C k s 0 by omega)
  have lx := lt_of_block hx
  have hb6 := below_alloc w5 (.cells #[.int .i64 R, .int .i64 C, .int .i64 k, .int .i64 s, .int .i64 P, .int .i64 Q] 54)
  have hnew := heap_alloc_new w5 (.cells #[.int .i64 R, .int .i64 C, .int .i64 k, .int .i64 s, .int .i64 P, .int .i64 Q] 54)
  have hs6 : (w5.alloc (.cells #[.int .i64 R, .int .i64 C, .int .i64 k, .int .i64 s, .int .i64 P, .int .i64 Q] 54)).heap.size = w5.heap.size + 1 := World.size_alloc _ _
  refine (each_own 37 #[.pointer (some ⟨bo, 0, none⟩), .pointer (some ⟨bx, 0, none⟩)]
    (fun i wr => SumAt B bo bd od oe n (T.backs z R C k s P Q i) wr ∧ Kept (w5.heap.size + 1) (fun g => g = bd) (w5.alloc (.cells #[.int .i64 R, .int .i64 C, .int .i64 k, .int .i64 s, .int .i64 P, .int .i64 Q] 54)) wr)
    R C k s P Q N w5 hP hQ hP0 hQ0 hN (fun args w => by simp [go_sem]) ?_ ?_ ?_ ?_).mono ?_
  · exact ⟨by simpa [T.backs] using hm0.below hb6, rfl, rfl, rfl, Nat.le_refl _, fun _ _ _ => rfl⟩
  · rintro i wr ⟨_, hk⟩
    have h6 := (hk.block w5.heap.size (by omega) (by omega)).trans hnew
    refine ⟨by have := hk.size; omega, fun j hj => ?_⟩
    unfold World.cell?
    simp only [h6]
    rfl
  · rintro i w1 w2 ⟨hm1, hk⟩ hb'
    exact ⟨hm1.below hb', hk.below (by have := hk.size; omega) hb'⟩
  · intro n' i a l c wr hn' hi ⟨hm1, hk⟩ hrow ha
    have hpos : 0 < l := by rw [← hrow.len_eq]; exact ix_pos hP hQ hi hQ0
    have hidx : n' * (P * Q) + i < m := by
      have := Nat.mul_le_mul_right (P * Q) (show n' + 1 ≤ N by omega)
      rw [Nat.succ_mul] at this
      omega
    have hx6 := (hk.block bx (by omega) hxd).trans (blk_below hx hb6)
    have hD : RowAt .i8 wr b m z := hk.rowIn (h1.below hb6) (fun x hx => by have := hb1 x hx; exact ⟨by omega, this.1⟩)
    have hl25 : l ≤ 25 := by
      rw [← hrow.len_eq]
      unfold ix
      rw [List.length_map]
      exact winW_small _ _ _ _ _ _ _
    have hstep := backStep_any (n' * (P * Q) + i) a l c (ix R C k s Q n' i) bx bo bd od oe b m k0 z B n (T.backs z R C k s P Q (n' * (P * Q) + i)) wr hrow hl25 (newTensor hx6).2.2.1 hD hidx (by rw [hn]; exact ix_in r1 c1 hn') hn8 hm1 (T.backs_bound h1.wf) (by have := T.length_backs z R C k s P Q (n' * (P * Q) + i); omega)
      (fun x hx => by have := ha x hx; omega) (fun x hx => (hb1 x hx).1) hxd
    refine hstep.mono ?_
    rintro e w' ⟨rfl, hm2, hk2⟩
    refine ⟨rfl, ?_, hk.trans (hk2.mono (by have := hk.size; omega))⟩
    rw [T.backs_succ, T.wix_eq R C k s P Q n' i hi]
    exact hm2
  · rintro e w' ⟨rfl, hm2, hk2⟩
    refine ⟨rfl, hm2, hk2.os, hk2.tape, hk2.output, by have := hk2.size; omega, fun g hg hn => ?_⟩
    exact (hk2.block g (by omega) hn).trans (hb6.block g hg)
end Go.Proofs.Ytaijiihlkcbdhaa
