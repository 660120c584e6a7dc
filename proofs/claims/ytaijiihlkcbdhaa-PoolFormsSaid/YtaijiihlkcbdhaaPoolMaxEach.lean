/-
  All windows' greatest, one behind the other.
-/
import Derived.Test.YtaijiihlkcbdhaaPoolMax
namespace Go.Proofs.Ytaijiihlkcbdhaa
open Go.RowKit
set_option linter.unusedVariables false
theorem Two.below {B : Nat} {w w' : World} {v : Value} {n : Nat} {xs : List Int} {u : Value} {m : Nat} {ys : List Int} (h : Two B w v n xs u m ys) (hb : Below w.heap.size w w') : Two B w' v n xs u m ys :=
  ⟨owned_below h.fst hb, owned_below h.snd hb, h.apart, Nat.le_trans h.base hb.size⟩
theorem MaxAt.below {B bo bf : Nat} {od oe : Value} {n : Nat} {xs ys : List Int} {w w' : World} (h : MaxAt B bo bf od oe n xs ys w) (hb : Below w.heap.size w w') : MaxAt B bo bf od oe n xs ys w' := by
  obtain ⟨vd, vf, h1, h2, h3⟩ := h
  exact ⟨vd, vf, blk_below h1 hb, blk_below h2 hb, h3.below hb⟩
theorem Kept.below {B : Nat} {S : Nat → Prop} {a w w' : World} (h : Kept B S a w) (hB : B ≤ w.heap.size) (hb : Below w.heap.size w w') : Kept B S a w' :=
  ⟨hb.os.trans h.os, hb.tape.trans h.tape, hb.output.trans h.output, Nat.le_trans h.size hb.size, fun g hg hn => (hb.block g (Nat.lt_of_lt_of_le hg hB)).trans (h.block g hg hn)⟩
theorem Kept.cell {B : Nat} {S : Nat → Prop} {a w : World} (h : Kept B S a w) {p : Addr} {v : Value} (hp : p.block < B) (hn : ¬ S p.block) (hc : a.cell? p = some v) : w.cell? p = some v := by
  have := h.block p.block hp hn
  obtain ⟨g, o, s⟩ := p
  unfold World.cell? at hc ⊢
  simp only [this]
  exact hc
/-- What lies before the call stays, but for the blocks of S. -/
theorem Kept.row {B : Nat} {S : Nat → Prop} {w0 a w : World} {k : IntKind} {p : Option Addr} {n : Nat} {zs : List Int} (h : Kept B S a w) (hb : Below w0.heap.size w0 a) (hB : w0.heap.size ≤ B) (hS : ∀ g, S g → w0.heap.size ≤ g) (hr : RowAt k w0 p n zs) : RowAt k w p n zs :=
  hr.mono fun q v hq => by
    have hl := World.block_lt_of_cell? w0 q hq
    exact h.cell (Nat.lt_of_lt_of_le hl hB) (fun hs => by have := hS _ hs; omega) (hb.cell_of hq)
theorem RowAt.ltAny {k : IntKind} {w : World} {x : Addr} {len : Nat} {zs : List Int} (h : RowAt k w (some x) len zs) (h0 : 0 < len) : x.block < w.heap.size := by
  obtain ⟨b', off', e, hc⟩ := h.cells h0
  cases e
  exact World.block_lt_of_cell? w _ (hc 0 h0)
theorem maxEach (w w5 : World) (b : Option Addr) (m k0 : Nat) (z : List Int) (R C k s : Int) (P Q N bx bo bf : Nat) (od oe x0 x1 : Value) (hP : outW R k s 0 = P) (hQ : outW C k s 0 = Q) (hP0 : 0 < P) (hQ0 : 0 < Q) (hN : N ≤ 8192) (hz : (m : Int) = N * R * C) (hm : m ≤ 8192)
    (h1 : RowAt .i8 w b m z) (hb : Below w.heap.size w w5) (hx : w5.heap[bx]? = some (.cells #[x0, x1, .slice b m k0] 25 (0, 0)))
    (ho : w5.heap[bo]? = some (.cells #[od, oe, .slice none 0 0] 25 (0, 0))) (hf : w5.heap[bf]? = some (.cells #[.slice none 0 0] 22 (0, 0)))
    (hbo : w.heap.size ≤ bo) (hbf : w.heap.size ≤ bf) (hxo : bx ≠ bo) (hxf : bx ≠ bf) (hof : bo ≠ bf) :
    Calls Try.prog 26 #[windows R C k s P Q, .int .i64 N, .func (.func 27) #[] #[.pointer (some ⟨bx, 0, none⟩), .pointer (some ⟨bo, 0, none⟩), .pointer (some ⟨bf, 0, none⟩)]] w5 fun e w' => e = .returned (.tuple #[]) ∧
      MaxAt (w5.heap.size + 1) bo bf od oe (N * (P * Q)) (T.maxs z R C k s P Q (N * (P * Q))) (T.tops z R C k s P Q (N * (P * Q))) w' ∧ Kept w5.heap.size (fun g => g = bo ∨ g = bf) w5 w' := by
  obtain ⟨r1, r2, _, _, _, _, pr, _⟩ := outW_fit (show 1 ≤ outW R k s 0 by omega)
  obtain ⟨c1, c2, _, _, _, _, qc, _⟩ := outW_fit (show 1 ≤ outW C k s 0 by omega)
  have lx := lt_of_block hx
  have lo := lt_of_block ho
  have lf := lt_of_block hf
  have hNPQ : N * (P * Q) ≤ 8192 := by
    have e1 : (P : Int) * Q ≤ R * C := Int.mul_le_mul (by omega) (by omega) (by omega) (by omega)
    have e2 : (N : Int) * ((P : Int) * Q) ≤ N * (R * C) := Int.mul_le_mul_of_nonneg_left e1 (by omega)
    rw [← Int.mul_assoc (N : Int) R C, ← hz] at e2
    have e3 : ((N * (P * Q) : Nat) : Int) = (N : Int) * ((P : Int) * Q) := by rw [Int.natCast_mul, Int.natCast_mul]
    omega
  have hb6 := below_alloc w5 (.cells #[.int .i64 R, .int .i64 C, .int .i64 k, .int .i64 s, .int .i64 P, .int .i64 Q] 54)
  have hnew := heap_alloc_new w5 (.cells #[.int .i64 R, .int .i64 C, .int .i64 k, .int .i64 s, .int .i64 P, .int .i64 Q] 54)
  have hs6 : (w5.alloc (.cells #[.int .i64 R, .int .i64 C, .int .i64 k, .int .i64 s, .int .i64 P, .int .i64 Q] 54)).heap.size = w5.heap.size + 1 := World.size_alloc _ _
  refine (each_any 27 #[.pointer (some ⟨bx, 0, none⟩), .pointer (some ⟨bo, 0, none⟩), .pointer (some ⟨bf, 0, none⟩)]
    (fun n wr => MaxAt (w5.heap.size + 1) bo bf od oe n (T.maxs z R C k s P Q n) (T.tops z R C k s P Q n) wr ∧ Kept (w5.heap.size + 1) (fun g => g = bo ∨ g = bf) (w5.alloc (.cells #[.int .i64 R, .int .i64 C, .int .i64 k, .int .i64 s, .int .i64 P, .int .i64 Q] 54)) wr)
    R C k s P Q N w5 hP hQ hP0 hQ0 hN (fun args w => by simp [go_sem]) ?_ ?_ ?_ ?_).mono ?_
  · refine ⟨⟨.slice none 0 0, .slice none 0 0, blk_below ho hb6, blk_below hf hb6, ⟨World.ownsRow_nil _ _ _ _, World.ownsRow_nil _ _ _ _, (fun g hg => by cases hg), by rw [hs6]; exact Nat.le_refl _⟩⟩, rfl, rfl, rfl, Nat.le_refl _, fun _ _ _ => rfl⟩
  · rintro i wr ⟨_, hk⟩
    have h6 := (hk.block w5.heap.size (by omega) (by omega)).trans hnew
    refine ⟨by have := hk.size; omega, fun j hj => ?_⟩
    unfold World.cell?
    simp only [h6]
    rfl
  · rintro i w1 w2 ⟨hm1, hk⟩ hb'
    exact ⟨hm1.below hb', hk.below (by have := hk.size; omega) hb'⟩
  · intro n i a l c wr hn hi ⟨hm1, hk⟩ hrow
    have hpos : 0 < l := by rw [← hrow.len_eq]; exact ix_pos hP hQ hi hQ0
    have hidx : n * (P * Q) + i < N * (P * Q) := by
      have := Nat.mul_le_mul_right (P * Q) (show n + 1 ≤ N by omega)
      rw [Nat.succ_mul] at this
      omega
    have hx6 := (hk.block bx (by omega) (by omega)).trans (blk_below hx hb6)
    have hD : RowAt .i8 wr b m z := hk.row (w0 := w) (hb.step hb6) (by have := hb.size; omega) (fun g hg => by rcases hg with rfl | rfl <;> assumption) h1
    have hstep := maxStep_any ((n * (P * Q) + i : Nat) : Int) a l c (ix R C k s Q n i) bx bo bf od oe b m k0 z (w5.heap.size + 1) (n * (P * Q) + i) (T.maxs z R C k s P Q (n * (P * Q) + i)) (T.tops z R C k s P Q (n * (P * Q) + i)) wr hrow hpos (newTensor hx6).2.2.1 hD (by rw [hz]; exact ix_in r1 c1 hn) hm1 hxo hxf
      (fun x e => by
        have hl : 0 < m := by
          have := ix_in (R := R) (C := C) (k := k) (s := s) (Q := Q) (i := i) r1 c1 hn ((ix R C k s Q n i).getD 0 0) (by have := ix_pos (n := n) hP hQ hi hQ0; simp [List.getD, List.getElem?_eq_getElem this])
          omega
        subst e
        have := h1.ltAny hl
        omega)
      (by omega)
      (fun x e => by
        have hl : 0 < m := by
          have := ix_in (R := R) (C := C) (k := k) (s := s) (Q := Q) (i := i) r1 c1 hn ((ix R C k s Q n i).getD 0 0) (by have := ix_pos (n := n) hP hQ hi hQ0; simp [List.getD, List.getElem?_eq_getElem this])
          omega
        subst e
        have := h1.ltAny hl
        have := hb.size
        omega)
      (by omega) (by omega) hof (by omega)
    refine hstep.mono ?_
    rintro e w' ⟨rfl, hm2, hk2⟩
    have et : T.top z R C k s P Q (n * (P * Q) + i) = T.best z ((ix R C k s Q n i).getD 0 0) (ix R C k s Q n i) := by
      unfold T.top
      rw [T.wix_eq R C k s P Q n i hi]
    refine ⟨rfl, ?_, hk.trans hk2⟩
    rw [T.maxs_succ, T.tops_succ, et]
    exact hm2
  · rintro e w' ⟨rfl, hm2, hk2⟩
    refine ⟨rfl, hm2, hk2.os, hk2.tape, hk2.output, by have := hk2.size; omega, fun g hg hn => ?_⟩
    exact (hk2.block g (by omega) hn).trans (hb6.block g hg)
end Go.Proofs.Ytaijiihlkcbdhaa
