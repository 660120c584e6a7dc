/-
  What the layer 'pool' asks of itself.
-/
import Derived.Test.YtaijiihlkcbdhaaPoolAll
import Derived.Test.YtaijiihlkcbdhaaShapeRef
namespace Go.Proofs.Ytaijiihlkcbdhaa
open Go.RowKit
set_option linter.unusedVariables false
attribute [local go_sem ↓] Go.wp_at_zero Go.wp_at_succ
theorem tensor_cells (w : World) (a : Option Addr) (l c : Nat) (e : Int) (b : Option Addr) (m k : Nat) (t : TypeId) :
    (w.alloc (.cells #[.slice a l c, .int .i64 e, .slice b m k] t)).heap[w.heap.size]? = some (.cells #[.slice a l c, .int .i64 e, .slice b m k] t (0, 0)) := heap_alloc_new _ _
set_option maxHeartbeats 400000 in
theorem refSameT_self (a : Option Addr) (l c : Nat) (d : List Int) (e : Int) (b : Option Addr) (m k : Nat) (z : List Int) (a2 : Option Addr) (l2 c2 : Nat) (b2 : Option Addr) (m2 k2 : Nat) (w : World)
    (h0 : RowAt .i64 w a l d) (h1 : RowAt .i8 w b m z) (g0 : RowAt .i64 w a2 l2 d) (g1 : RowAt .i8 w b2 m2 z) :
    Calls Try.prog 12 #[tensor a l c e b m k, tensor a2 l2 c2 e b2 m2 k2] w (GivesV (.bool true) w) := by
  obtain rfl : l = l2 := by rw [← h0.len_eq, ← g0.len_eq]
  obtain rfl : m = m2 := by rw [← h1.len_eq, ← g1.len_eq]
  have hml := h1.len_le
  have B1 := below_alloc w (Obj.cells #[.slice a l c, .int .i64 e, .slice b m k] 25)
  have B2 := below_alloc (w.alloc (Obj.cells #[.slice a l c, .int .i64 e, .slice b m k] 25)) (Obj.cells #[.slice a2 l c2, .int .i64 e, .slice b2 m k2] 25)
  have hn1 := blk_below (tensor_cells w a l c e b m k 25) B2
  have hn2 := tensor_cells (w.alloc (Obj.cells #[.slice a l c, .int .i64 e, .slice b m k] 25)) a2 l c2 e b2 m k2 25
  have BB := Lib.hid (B1.step B2)
  have H0 := Lib.hid (h0.below BB.out)
  have H1 := Lib.hid (h1.below BB.out)
  have G0 := Lib.hid (g0.below BB.out)
  have G1 := Lib.hid (g1.below BB.out)
  have hb : ((m : Int) != (m : Int)) = false := by simp
  have he : (e != e) = false := by simp
  rw [World.size_alloc] at hn2
  have N1 := Lib.hid hn1
  have N2 := Lib.hid hn2
  clear h0 h1 g0 g1 hn1 hn2 B1 B2
  unfold tensor
  go_enter Try.func12, Try.ntmps12
  go_wp2_with fail
  generalize hw1 : (w.alloc (Obj.cells #[.slice a l c, .int .i64 e, .slice b m k] 25)).alloc (Obj.cells #[.slice a2 l c2, .int .i64 e, .slice b2 m k2] 25) = w1 at *
  clear hw1
  refine (show Calls _ _ _ _ (Gives (.bool true) w1) from (decide_eq_true (show d = d from rfl)) ▸ refSame_any a l c d a2 l c2 d w1 H0.out G0.out).mono ?_
  rintro e' w' ⟨rfl, q0, rfl⟩
  obtain ⟨x0, x1, x2, _⟩ := newTensor (blk_below N1.out (below_drewN w1 q0))
  obtain ⟨y0, y1, y2, _⟩ := newTensor (blk_below N2.out (below_drewN w1 q0))
  go_wp2_with fail
  go_loopw [31] (fun i wr => ∃ k q : Nat, k ≤ m ∧ i = .int .i64 k ∧ wr = w1.drewN q) (fun i _ => m - (intOf i).toNat)
  case atStart => exact ⟨0, q0, Nat.zero_le _, rfl, rfl⟩
  case round =>
    obtain ⟨i, q, hk, rfl, rfl⟩ := hrel
    clear x0 x1 x2 y0 y1 y2
    obtain ⟨x0, x1, x2, _⟩ := newTensor N1.out
    obtain ⟨y0, y1, y2, _⟩ := newTensor N2.out
    by_cases hlt : i < m
    · obtain ⟨p0, o0, rfl, e0⟩ := H1.out.cells (by omega)
      obtain ⟨p1, o1, rfl, e1⟩ := G1.out.cells (by omega)
      have f0 := e0 i hlt
      have f1 := e1 i hlt
      clear e0 e1
      generalize z.getD i 0 = x at *
      have c2 : (x != x) = false := by simp
      go_wp2
      go_quiet (fail)
      go_wp2
      go_roundw
      case rel => exact ⟨i + 1, q + nq, by omega, by go_num, rfl⟩
      case measure => simp [intOf]; omega
    · go_wp2
      go_ret
      exact ⟨rfl, BB.out.draws q⟩
/-- The numbers' own number, of each tensor of a row. -/
def T.Tens (w : World) (g n : Nat) (L : List Nat) : Prop := L.length = n ∧ ∀ i, i < n → ∃ a l c e b k, L.getD i 0 ≤ 1000000000000000 ∧ w.cell? ⟨g, 3 * i, none⟩ = some (.slice a l c) ∧ w.cell? ⟨g, 3 * i + 1, none⟩ = some (.int .i64 e) ∧ w.cell? ⟨g, 3 * i + 2, none⟩ = some (.slice b (L.getD i 0) k)
theorem T.sum_take {L : List Nat} {j : Nat} (h : j < L.length) : (L.take (j + 1)).sum = (L.take j).sum + L.getD j 0 := by
  rw [List.take_succ_eq_append_getElem h, List.sum_append]
  simp [List.getD, List.getElem?_eq_getElem h]
theorem light_any (g n : Nat) (hn : n ≤ 2) (L : List Nat) (w : World) (h : T.Tens w g n L) :
    Calls Try.prog 8 #[.slice (some ⟨g, 0, none⟩) n n] w (GivesV (.bool (decide (L.sum ≤ 2000))) w) := by
  have H := Lib.hid h.2
  have HL := Lib.hid h.1
  clear h
  go_enter Try.func8, Try.ntmps8
  go_wp2
  go_loopw [3, 8] (fun s i wx => ∃ j : Nat, j ≤ n ∧ i = .int .i64 j ∧ s = .int .i64 ((L.take j).sum : Nat) ∧ (L.take j).sum ≤ j * 1000000000000000 ∧ Below w.heap.size w wx) (fun _ i _ => n - (intOf i).toNat)
  case atStart => exact ⟨0, Nat.zero_le _, rfl, rfl, Nat.zero_le _, Below.refl _ _⟩
  case round =>
    obtain ⟨j, hj, rfl, rfl, hs, hbx⟩ := hrel
    have BX := Lib.hid hbx
    clear hbx
    have hs2 : j * 1000000000000000 ≤ 2 * 1000000000000000 := Nat.mul_le_mul_right _ (by omega)
    skip
    by_cases hlt : j < n
    · obtain ⟨a, l, c, e, b, k, hm, f0, f1, f2⟩ := H.out j hlt
      have HS := Lib.hid (T.sum_take (L := L) (j := j) (by rw [HL.out]; exact hlt))
      have HJ := Lib.hid hs
      have k0 := BX.out.cell_of f0
      have k1 := BX.out.cell_of f1
      have k2 := BX.out.cell_of f2
      rw [Nat.mul_comm 3 j] at k0 k1 k2
      clear f0 f1 f2
      generalize L.getD j 0 = m at *
      generalize hS : (L.take j).sum = S at *
      clear hS
      go_wp2
      go_roundw
      case rel => exact ⟨j + 1, by omega, by go_num, by rw [HS.out]; go_num, by rw [HS.out, Nat.add_mul, Nat.one_mul]; have := HJ.out; omega, BX.out.alloc BX.out.size _⟩
      case measure => simp [intOf]; omega
    · have hx : (L.take j).sum = L.sum := by rw [List.take_of_length_le (by have := HL.out; omega)]
      have HX := Lib.hid hx
      clear hx
      generalize (L.take j).sum = S at *
      go_wp2
      go_ret
      exact ⟨by rw [← HX.out]; by_cases c : S ≤ 2000 <;> simp [c] <;> omega, BX.out⟩
theorem awake_val : GivesT (T.outDims [1, 1, 2, 2] 2 1) 0 (T.maxOf [1, 1, 2, 2] [1, 2, 3, 3] 2 1) (T.topOf [1, 1, 2, 2] [1, 2, 3, 3] 2 1) 0 = GivesT [1, 1, 1, 1] 0 [3] [2] 0 := by
  rw [show T.outDims [1, 1, 2, 2] 2 1 = [1, 1, 1, 1] by decide, show T.maxOf [1, 1, 2, 2] [1, 2, 3, 3] 2 1 = [3] by decide +kernel, show T.topOf [1, 1, 2, 2] [1, 2, 3, 3] 2 1 = [2] by decide +kernel]
theorem awakeP_any (w : World) : Calls Try.prog 9 #[] w (GivesV (.bool true) w) := by
  have R1 := RowAt.new w .i64 3 (0, 0) [1, 1, 2, 2] (by decide) (by decide)
  have R2 := RowAt.new (w.alloc (Obj.cells #[.int .i64 1, .int .i64 1, .int .i64 2, .int .i64 2] 3)) .i8 37 (0, 0) [1, 2, 3, 3] (by decide) (by decide)
  have B1 := below_alloc w (Obj.cells #[.int .i64 1, .int .i64 1, .int .i64 2, .int .i64 2] 3)
  have B2 := below_alloc (w.alloc (Obj.cells #[.int .i64 1, .int .i64 1, .int .i64 2, .int .i64 2] 3)) (Obj.cells #[.int .i8 1, .int .i8 2, .int .i8 3, .int .i8 3] 37)
  have R1' := R1.below B2
  rw [World.size_alloc] at R2
  have BB := Lib.hid (B1.step B2)
  have HM := Lib.hid (awake_val ▸ max_good (some ⟨w.heap.size, 0, none⟩) 4 4 [1, 1, 2, 2] 0 (some ⟨w.heap.size + 1, 0, none⟩) 4 4 [1, 2, 3, 3] 2 1 _ R1' R2 (by decide +kernel) (by decide +kernel))
  clear B1 B2 R1 R2 R1'
  unfold tensor at HM
  go_enter Try.func9, Try.ntmps9
  go_wp2_with fail
  refine (HM.out).mono ?_
  rintro r w2 ⟨a, l, c, b, m, k, g, n, h, rfl, ha, hb, hg, hbel⟩
  obtain rfl : m = 1 := hb.len_eq.symm
  obtain rfl : n = 1 := hg.len_eq.symm
  obtain ⟨p0, o0, rfl, e0⟩ := hb.cells (by omega)
  obtain ⟨p1, o1, rfl, e1⟩ := hg.cells (by omega)
  have f0 := e0 0 (by omega)
  have f1 := e1 0 (by omega)
  simp at f0 f1
  have B3 := Lib.hid (BB.out.step hbel)
  clear e0 e1 hbel HM ha hb hg
  unfold tensor
  have g0 := (below_alloc w2 (Obj.cells #[.slice a l c, .int .i64 0, .slice (some ⟨p0, o0, none⟩) 1 k] 25)).cell_of f0
  have g1 := (below_alloc w2 (Obj.cells #[.slice a l c, .int .i64 0, .slice (some ⟨p0, o0, none⟩) 1 k] 25)).cell_of f1
  clear f0 f1
  go_wp2
  go_ret
  exact ⟨rfl, B3.out.alloc B3.out.size _⟩
end Go.Proofs.Ytaijiihlkcbdhaa
