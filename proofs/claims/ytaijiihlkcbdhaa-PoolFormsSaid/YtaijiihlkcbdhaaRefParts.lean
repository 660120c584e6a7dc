/-
  The parts of the reference's pooling: may tensors be, the shape that comes out, sums of noughts, how much less a mean's exponent is.
-/
import Derived.Test.YtaijiihlkcbdhaaPoolMayT
import Derived.Test.YtaijiihlkcbdhaaLess
namespace Go.Proofs.Ytaijiihlkcbdhaa
open Go.RowKit
set_option linter.unusedVariables false
attribute [local go_sem ↓] Go.wp_at_zero Go.wp_at_succ
set_option maxHeartbeats 2000000 in
/-- May the one tensor of a row be? -/
theorem refMayOne (a : Option Addr) (l c : Nat) (d : List Int) (e : Int) (b : Option Addr) (m k : Nat) (z : List Int) (g : Nat) (w : World) (hg : w.heap[g]? = some (.cells #[.slice a l c, .int .i64 e, .slice b m k] 25 (0, 0))) (h0 : RowAt .i64 w a l d) (h1 : RowAt .i8 w b m z) :
    Calls Try.prog 38 #[.slice (some ⟨g, 0, none⟩) 1 1] w (GivesV (.bool (decide (T.may d e z))) w) := by
  have HG := Lib.hid hg
  have H0 := Lib.hid h0
  have H1 := Lib.hid h1
  have M := Lib.hid (fun w h0 h1 => refMayT_any a l c d e b m k z w h0 h1)
  obtain ⟨B, hB⟩ : ∃ B, decide (T.may d e z) = B := ⟨_, rfl⟩
  rw [hB] at M ⊢
  clear hg h0 h1 hB
  unfold tensor at M
  go_enter Try.func38, Try.ntmps38
  go_wp2_with fail
  go_loopw [7] (fun i wr => ∃ j : Nat, j ≤ 1 ∧ i = .int .i64 j ∧ (1 ≤ j → B = true) ∧ Below w.heap.size w wr) (fun i _ => 1 - (intOf i).toNat)
  case atStart => exact ⟨0, Nat.zero_le _, rfl, fun h => by omega, Below.refl _ _⟩
  case round =>
    obtain ⟨j, hj, rfl, hB, hbel⟩ := hrel
    have HBel := Lib.hid hbel
    have HB := Lib.hid hB
    clear hB
    by_cases hlt : j < 1
    · obtain rfl : j = 0 := by omega
      obtain ⟨x0, x1, x2, _⟩ := newTensor (blk_below HG.out hbel)
      clear hbel
      go_wp2_with fail
      refine (M.out _ (((H0.out.below HBel.out).below (below_alloc _ _))) (((H1.out.below HBel.out).below (below_alloc _ _)))).mono ?_
      rintro e' w2 ⟨rfl, hb⟩
      have HB2 := Lib.hid (HBel.out.step ((below_alloc _ _).step hb))
      clear hb x0 x1 x2
      cases B
      · go_wp2_with fail
        go_ret
        exact ⟨rfl, HB2.out⟩
      · go_wp2_with fail
        go_roundw
        case rel => exact ⟨1, by omega, by go_num, fun _ => by trivial, HB2.out⟩
        case measure => simp [intOf]
    · obtain rfl : j = 1 := by omega
      obtain rfl : B = true := HB.out (by omega)
      clear hbel
      go_wp2_with fail
      go_ret
      exact ⟨rfl, HBel.out⟩
/-- How large the windows' plane is. -/
theorem refPlane_any (h v k s p : Int) (w : World) : Calls Try.prog 48 #[.int .i64 h, .int .i64 v, .int .i64 k, .int .i64 s, .int .i64 p] w fun e w' => e = .returned (.tuple #[.int .i64 (outW h k s p), .int .i64 (outW v k s p)]) ∧ w' = w := by
  go_enter Try.func48, Try.ntmps48
  go_wp2_with fail
  refine (refOut_any h k s p w).mono ?_
  rintro e w2 ⟨rfl, rfl⟩
  go_wp2_with fail
  refine (refOut_any v k s p _).mono ?_
  rintro e w2 ⟨rfl, rfl⟩
  go_wp2_with fail
  go_ret2
  exact ⟨rfl, rfl⟩
theorem refPooled_no (a : Option Addr) (l c : Nat) (d : List Int) (k s : Int) (w : World) (h : RowAt .i64 w a l d) (hl : l ≠ 4) : Calls Try.prog 39 #[.slice a l c, .int .i64 k, .int .i64 s] w fun e w' => e = .returned (.tuple #[.slice none 0 0, .bool false]) ∧ w' = w := by
  have hll := h.len_le
  have h4 : ((l : Int) != 4) = true := by rw [bne_iff_ne]; omega
  clear h
  go_enter Try.func39, Try.ntmps39
  go_wp2_with fail
  go_ret2
  exact ⟨rfl, rfl⟩
/-- What pooled leaves: the shape, a row of its own, and whether there are windows. -/
def PooledOut (xs : List Int) (B : Bool) (w : World) (e : Ending) (w' : World) : Prop := ∃ g, e = .returned (.tuple #[.slice (some ⟨g, 0, none⟩) 4 4, .bool B]) ∧ RowAt .i64 w' (some ⟨g, 0, none⟩) 4 xs ∧ Below w.heap.size w w'
theorem four_new (w : World) (x0 x1 x2 x3 : Int) (h : ∀ x ∈ [x0, x1, x2, x3], (Lit.int .i64 x).wf = true) : RowAt .i64 (w.alloc (Obj.cells #[.int .i64 x0, .int .i64 x1, .int .i64 x2, .int .i64 x3] 3)) (some ⟨w.heap.size, 0, none⟩) 4 [x0, x1, x2, x3] := RowAt.new w .i64 3 (0, 0) [x0, x1, x2, x3] h (by simp)
set_option maxHeartbeats 2000000 in
theorem refPooled_yes (a : Option Addr) (c : Nat) (d : List Int) (k s : Int) (w : World) (h : RowAt .i64 w a 4 d) :
    Calls Try.prog 39 #[.slice a 4 c, .int .i64 k, .int .i64 s] w (PooledOut [d.getD 0 0, d.getD 1 0, outW (d.getD 2 0) k s 0, outW (d.getD 3 0) k s 0] (decide (0 < outW (d.getD 2 0) k s 0 ∧ 0 < outW (d.getD 3 0) k s 0)) w) := by
  have hwf0 := h.wf
  have H := Lib.hid h
  obtain ⟨b0, o0, rfl, e0⟩ := h.cells (by omega)
  have hdw : ∀ i, i < 4 → (Lit.int .i64 (d.getD i 0)).wf = true := fun i hi => by
    have : i < d.length := by rw [h.len_eq]; exact hi
    exact hwf0 _ (by simp [List.getD, List.getElem?_eq_getElem this])
  have wf0 := hdw 0 (by omega)
  have wf1 := hdw 1 (by omega)
  have dc0 := e0 0 (by omega)
  have dc1 := e0 1 (by omega)
  have dc2 := e0 2 (by omega)
  have dc3 := e0 3 (by omega)
  rw [Nat.add_zero] at dc0
  generalize d.getD 0 0 = d0 at *
  generalize d.getD 1 0 = d1 at *
  generalize d.getD 2 0 = R at *
  generalize d.getD 3 0 = C at *
  have PL := Lib.hid (fun w => refPlane_any R C k s 0 w)
  have p0 := outW_max R k s 0
  have q0 := outW_max C k s 0
  generalize outW R k s 0 = P at *
  generalize outW C k s 0 = Q at *
  have HNew := Lib.hid (fun w => four_new w d0 d1 P Q (fun x hx => by
    simp only [List.mem_cons, List.not_mem_nil, or_false] at hx
    rcases hx with rfl | rfl | rfl | rfl
    · exact wf0
    · exact wf1
    · exact WalkArith.wf_i64 (by omega)
    · exact WalkArith.wf_i64 (by omega)))
  clear h hwf0 e0 hdw wf0 wf1
  by_cases cP : 0 < P
  · by_cases cQ : 0 < Q
    · have c1 : decide (0 < P) = true := decide_eq_true cP
      have c2 : decide (0 < Q) = true := decide_eq_true cQ
      have c3 : decide (0 < P ∧ 0 < Q) = true := decide_eq_true ⟨cP, cQ⟩
      rw [c3]
      clear c3 cP cQ
      go_enter Try.func39, Try.ntmps39
      go_wp2_with fail
      go_quiet ((go_at_call 48; exact Calls.quiet_of_same (PL.out _)))
      go_wp2_with fail
      go_region_held3 (fun w' => w'.cell? ⟨b0, o0, none⟩ = some (.int .i64 d0) ∧ w'.cell? ⟨b0, o0 + 1, none⟩ = some (.int .i64 d1)) (go_keep) (fail)
      all_goals
        go_wp2_with fail
        go_ret2
        exact ⟨_, rfl, (HNew.out _).draws 1, ((below_drewN w nq).step (below_alloc _ _)).draws 1⟩
    · have c1 : decide (0 < P) = true := decide_eq_true cP
      have c2 : decide (0 < Q) = false := decide_eq_false cQ
      have c3 : decide (0 < P ∧ 0 < Q) = false := decide_eq_false (fun h => cQ h.2)
      rw [c3]
      clear c3 cP cQ
      go_enter Try.func39, Try.ntmps39
      go_wp2_with fail
      go_quiet ((go_at_call 48; exact Calls.quiet_of_same (PL.out _)))
      go_wp2_with fail
      go_region_held3 (fun w' => w'.cell? ⟨b0, o0, none⟩ = some (.int .i64 d0) ∧ w'.cell? ⟨b0, o0 + 1, none⟩ = some (.int .i64 d1)) (go_keep) (fail)
      all_goals
        go_wp2_with fail
        go_ret2
        exact ⟨_, rfl, (HNew.out _).draws 1, ((below_drewN w nq).step (below_alloc _ _)).draws 1⟩
  · have c1 : decide (0 < P) = false := decide_eq_false cP
    have c3 : decide (0 < P ∧ 0 < Q) = false := decide_eq_false (fun h => cP h.1)
    rw [c3]
    clear c3 cP
    go_enter Try.func39, Try.ntmps39
    go_wp2_with fail
    go_quiet ((go_at_call 48; exact Calls.quiet_of_same (PL.out _)))
    go_wp2_with fail
    go_region
    all_goals
      go_wp2_with fail
      go_ret2
      exact ⟨_, rfl, (HNew.out _).draws 1, ((below_drewN w nq).step (below_alloc _ _)).draws 1⟩
/-- How much less: as the code says. -/
theorem refLess_any (k : Int) (w : World) (h1 : 1 ≤ k) (h5 : k ≤ 5) : Calls Try.prog 42 #[.int .i64 k] w fun e w' => e = .returned (.int .i64 (k / 2 * 2)) ∧ w' = w := by
  have hix := less_row k (by omega) h5
  generalize k / 2 * 2 = KL at *
  go_enter Try.func42, Try.ntmps42
  go_wp2_with fail
  go_ret
  exact ⟨rfl, rfl⟩
/-- Sums of noughts, a row of the call's own. -/
def AccOf (a : Option Addr) (l c : Nat) (e : Int) (n : Nat) (w : World) (r : Ending) (w' : World) : Prop := ∃ g, r = .returned (.tuple #[.agg #[.slice a l c, .int .i64 e, .slice (some ⟨g, 0, none⟩) n n], .int .i64 0]) ∧ w'.ownsRow w.heap.size 21 1 (.slice (some ⟨g, 0, none⟩) n n) n ((T.puts n []).map (Value.int .i32)) ∧ Below w.heap.size w w'
set_option maxHeartbeats 2000000 in
theorem refAcc_yes (a : Option Addr) (l c : Nat) (d : List Int) (e : Int) (n : Nat) (w : World) (h : RowAt .i64 w a l d) (he : -128 ≤ e ∧ e ≤ 128) (hn : Sh.size d = n) (hn0 : 0 < n) (hn1 : n ≤ 8192) : Calls Try.prog 41 #[.slice a l c, .int .i64 e] w (AccOf a l c e n w) := by
  have M := Lib.hid (fun w h => refMay_still a l c d w h)
  have S := Lib.hid (fun w h => refSize_still a l c d w h)
  rw [hn] at M S
  rw [show decide (0 < (n : Int)) = true from decide_eq_true (by omega)] at M
  have H := Lib.hid h
  have c1 : decide (e < -128) = false := decide_eq_false (by omega)
  have c2 : decide (128 < e) = false := decide_eq_false (by omega)
  have hmk := fun w : World => run_make_row' (P := Try.prog) 31 21 (.int .i32 0) 4 Try.underlying31 infoI32 rfl .i64 .i64 n (by omega) (by omega) w
  clear h
  go_enter Try.func41, Try.ntmps41
  go_wp2_with fail
  refine (M.out _ (H.out.below (below_alloc _ _))).mono ?_
  rintro e' w' ⟨rfl, rfl⟩
  go_wp2_with fail
  refine (S.out _ (H.out.below (below_alloc _ _))).mono ?_
  rintro e' w' ⟨rfl, rfl⟩
  go_wp2_with fail
  refine bodyPost_ret (v := .tuple #[.agg #[.slice a l c, .int .i64 e, .slice (some ⟨w.heap.size + 1, 0, none⟩) n n], .int .i64 0]) ?_ rfl ?_
  · obtain ⟨t0, t1, t2, _⟩ := newTensor (blk_alloc (tensor_cells w a l c e (some ⟨w.heap.size + 1, 0, none⟩) n n 33) (Obj.cells (madeCells #[Value.int IntKind.i32 0] n) 21))
    simp [results, Try.results41, go_sem, t0, t1, t2]
  · have h := World.ownsRow_lit (base := w.heap.size) (e := 21) (size := 1) (w.alloc (.cells #[.slice a l c, .int .i64 e, .slice (some ⟨w.heap.size + 1, 0, none⟩) n n] 33)) (madeCells #[Value.int IntKind.i32 0] n) n (by rw [World.size_alloc]; omega) (by unfold maxLen; omega) (by rw [size_madeCells]; omega)
    rw [World.size_alloc, made32] at h
    exact ⟨_, rfl, h, (below_alloc w _).step (below_alloc _ _)⟩
end Go.Proofs.Ytaijiihlkcbdhaa
