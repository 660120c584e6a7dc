/-
  The walks of what the layer asks of itself, and of the laws ShapeOut, ShapeBack, ShapeRows.
-/
import Derived.Test.YtmebchgjofpepaaShapeWalk
namespace Go.Proofs.Ytmebchgjofpepaa
open Go.RowKit
set_option linter.unusedVariables false

theorem awake7_any (w : World) : Calls Try.prog 11 #[] w (GivesV (.bool true) w) := by
  have a1 : Sh.index [2, 3] [1, 2] = 5 := by decide
  have a2 : outW 5 3 2 1 = 3 := by decide
  have r1 : RowAt .i64 ((w.alloc (.cells #[.int .i64 2, .int .i64 3] 3)).alloc (.cells #[.int .i64 1, .int .i64 2] 3)) (some ⟨w.heap.size, 0, none⟩) 2 [2, 3] :=
    (RowAt.new w .i64 3 (0, 0) [2, 3] (by decide) (by decide)).below ((Below.refl _ _).alloc (Nat.le_refl _) _)
  have r2 : RowAt .i64 ((w.alloc (.cells #[.int .i64 2, .int .i64 3] 3)).alloc (.cells #[.int .i64 1, .int .i64 2] 3)) (some ⟨w.heap.size + 1, 0, none⟩) 2 [1, 2] := by
    have h := RowAt.new (w.alloc (.cells #[.int .i64 2, .int .i64 3] 3)) .i64 3 (0, 0) [1, 2] (by decide) (by decide)
    rw [World.size_alloc] at h
    exact h
  have R1 := Lib.hid r1
  have R2 := Lib.hid r2
  have H2 := Lib.hid (fun w => a2 ▸ out_any 5 3 2 1 w)
  have A1 := Lib.hid a1
  clear a1 a2 r1 r2
  go_enter Try.func11, Try.ntmps11
  go_wp2_with (go_at_call 20; refine (index_any _ _ _ _ _ _ _ _ _ R1.out R2.out).mono ?_; rw [A1.out]; rintro e w1 ⟨rfl, hb⟩)
  go_wp2_with (go_at_call 10; refine (H2.out _).mono ?_; rintro e w2 ⟨rfl, rfl⟩)
  go_ret
  exact ⟨rfl, (((Below.refl _ _).alloc (Nat.le_refl _) _).alloc (by simp) _).trans (hb.mono (by simp; omega))⟩
/-! ### ShapeOut -/
theorem shapeOut_any (a0 a1 a2 a3 : Int) (w : World) (w0 : (Lit.int .i64 a0).wf = true) (w1 : (Lit.int .i64 a1).wf = true) (w2 : (Lit.int .i64 a2).wf = true) (w3 : (Lit.int .i64 a3).wf = true) :
    Calls Try.prog 3 #[.int .i64 a0, .int .i64 a1, .int .i64 a2, .int .i64 a3] w fun e w' => e = .returned (.bool true) ∧ Below w.heap.size w w' := by
  clear w0 w1 w2 w3
  obtain ⟨O, hO⟩ : ∃ O, outW a0 a1 a2 a3 = O := ⟨_, rfl⟩
  have HO := Lib.hid (fun w => hO ▸ out_any a0 a1 a2 a3 w)
  by_cases h0 : O = 0
  · subst h0
    clear hO
    go_enter Try.func3, Try.ntmps3
    go_wp2_with (first
      | (go_at_call 10; refine (HO.out _).mono ?_; rintro e w2 ⟨rfl, rfl⟩)
      | (go_at_call 11; refine (awake7_any _).mono ?_; rintro e w2 ⟨rfl, hb⟩))
    go_ret
    exact ⟨rfl, hb⟩
  · obtain ⟨X, n1, n2, k1, k2, s1, s2, p1, p2, o1, o2, e1, e2, x1, x2, f1, f2⟩ := outW_fits hO h0
    have hb : (O == 0) = false := by rw [beq_eq_false_iff_ne]; exact h0
    clear hO h0
    go_enter Try.func3, Try.ntmps3
    go_wp2_with (first
      | (go_at_call 10; refine (HO.out _).mono ?_; rintro e w2 ⟨rfl, rfl⟩)
      | (go_at_call 11; refine (awake7_any _).mono ?_; rintro e w2 ⟨rfl, hb⟩))
    go_ret
    exact ⟨rfl, hb⟩

/-! ### ShapeBack -/
namespace Sh
theorem strides_cons (x : Int) (l : List Int) : strides (x :: l) = prod l :: strides l := by
  simp [strides, List.range_succ_eq_map, Function.comp_def]
theorem digits_spec : ∀ (d : List Int), (∀ x ∈ d, 1 ≤ x) → ∀ i, 0 ≤ i → i < prod d →
    (∀ k, k < d.length → 0 ≤ (digits (strides d) i).getD k 0 ∧ (digits (strides d) i).getD k 0 < d.getD k 0) ∧ ∀ n, idx n d (digits (strides d) i) = n + i
  | [], _, i, h0, h1 => by
    have : i = 0 := by simp [prod] at h1; omega
    subst this
    exact ⟨fun k hk => by simp at hk, fun n => by simp [idx]⟩
  | x :: l, hx, i, h0, h1 => by
    have hl : ∀ y ∈ l, 1 ≤ y := fun y hy => hx y (by simp [hy])
    have hp := prod_pos l hl
    have m0 := Int.emod_nonneg i (show prod l ≠ 0 by omega)
    have m1 := Int.emod_lt_of_pos i (show 0 < prod l by omega)
    have q0 : 0 ≤ i / prod l := Int.ediv_nonneg h0 (by omega)
    have q1 : i / prod l < x := by
      apply Int.ediv_lt_of_lt_mul (by omega)
      rw [prod] at h1; omega
    have e := Int.mul_ediv_add_emod i (prod l)
    obtain ⟨ih1, ih2⟩ := digits_spec l hl (i % prod l) m0 m1
    rw [strides_cons, digits]
    refine ⟨fun k hk => ?_, fun n => ?_⟩
    · cases k with
      | zero => simpa using ⟨q0, q1⟩
      | succ k => simpa using ih1 k (by simpa using hk)
    · rw [idx_yes (by omega), ih2, Int.mul_comm (i / prod l)]
      omega
theorem index_nil {d : List Int} (h : ¬ 0 < size d) (t : List Int) : index d t = -1 := by
  unfold index; rw [if_neg (fun c => h c.1)]
theorem May.ge {d : List Int} (h : May d) : ∀ x ∈ d, 1 ≤ x := fun x hx => (h.each x hx).1
theorem index_digits {d : List Int} (h : May d) {i : Int} (h0 : 0 ≤ i) (h1 : i < prod d) : index d (digits (strides d) i) = i := by
  unfold index
  rw [if_pos ⟨h.pos, by rw [length_digits, length_strides]⟩, (digits_spec d h.ge i h0 h1).2]
  omega
end Sh

theorem shapeBack_no (a0 : Option Addr) (len0 cap0 : Nat) (d : List Int) (a1 : Int) (w : World) (h0 : RowAt .i64 w a0 len0 d) (hm : ¬ 0 < Sh.size d) :
    Calls Try.prog 6 #[.slice a0 len0 cap0, .int .i64 a1] w fun e w' => e = .returned (.bool true) ∧ Below w.heap.size w w' := by
  have hd : decide (0 < Sh.size d) = false := decide_eq_false hm
  have hz := Sh.size_zero hm
  have HM := Lib.hid (fun w h => hd ▸ may_any a0 len0 cap0 d w h)
  have HZ := Lib.hid (fun w h => hz ▸ size_any a0 len0 cap0 d w h)
  have HI := Lib.hid (fun w h => Sh.index_nil hm [] ▸ index_any a0 len0 cap0 d none 0 0 [] w h (RowAt.zero _ _ _))
  have H0 := Lib.hid h0
  clear h0 hm hd hz
  go_enter Try.func6, Try.ntmps6
  go_wp2_with fail
  refine (HZ.out _ H0.out).mono ?_
  rintro e w' ⟨rfl, rfl⟩
  go_wp2_with fail
  refine (HM.out _ H0.out).mono ?_
  rintro e w' ⟨rfl, rfl⟩
  go_wp2_with fail
  refine (HI.out _ H0.out).mono ?_
  rintro e w1 ⟨rfl, hb⟩
  go_wp2_with (go_at_call 11; refine (awake7_any _).mono ?_; rintro e w2 ⟨rfl, hb2⟩)
  go_ret
  exact ⟨rfl, hb.step hb2⟩
set_option maxHeartbeats 1000000 in
theorem shapeBack_yes (a0 : Option Addr) (len0 cap0 : Nat) (d : List Int) (a1 : Int) (w : World) (h0 : RowAt .i64 w a0 len0 d) (hm : 0 < Sh.size d) :
    Calls Try.prog 6 #[.slice a0 len0 cap0, .int .i64 a1] w fun e w' => e = .returned (.bool true) ∧ Below w.heap.size w w' := by
  have hd : decide (0 < Sh.size d) = true := decide_eq_true hm
  have my := Sh.may_of hm
  have HM := Lib.hid (fun w h => hd ▸ may_any a0 len0 cap0 d w h)
  obtain ⟨S, hS⟩ := Int.eq_ofNat_of_zero_le (show 0 ≤ Sh.size d by omega)
  have HZ := Lib.hid (fun w h => hS ▸ size_any a0 len0 cap0 d w h)
  have s1 : 1 ≤ S := by omega
  have s8 : S ≤ 8192 := by have := my.le; rw [← my.eq] at this; omega
  have l1 : 1 ≤ len0 := h0.len_eq ▸ my.l1
  have l4 : len0 ≤ 4 := h0.len_eq ▸ my.l4
  obtain ⟨T, hT, eT⟩ := umod_ex a1 S (by omega)
  have hTs : (T : Int) < Sh.prod d := by rw [← my.eq]; omega
  have HA := Lib.hid (fun w h => at_some a0 len0 cap0 d T w h (by omega) (by rw [my.eq]; exact hTs))
  have HA2 := Lib.hid (fun w h => at_none a0 len0 cap0 d (S : Int) w h (by omega))
  have HA3 := Lib.hid (fun w h => at_none a0 len0 cap0 d (-1) w h (by omega))
  have HS := Lib.hid (fun w h => strides_some a0 len0 cap0 d w h my)
  obtain ⟨g1, g2⟩ := Sh.digits_spec d my.ge T (by omega) hTs
  have hix := Sh.index_digits my (i := T) (by omega) hTs
  obtain ⟨D, hD⟩ : ∃ D, Sh.digits (Sh.strides d) T = D := ⟨_, rfl⟩
  rw [hD] at HA g1 g2 hix
  have hi0 : Sh.idx 0 d D = T := by rw [g2]; omega
  have G1 := Lib.hid g1
  have HI0 := Lib.hid hi0
  have HIX := Lib.hid hix
  have hl := Lib.hid h0.len_eq
  have HY := Lib.hid my
  have H0 := Lib.hid h0
  clear h0 hm hd my g1 g2 hix hD hi0 hTs hS
  go_enter Try.func6, Try.ntmps6
  go_wp2_with fail
  refine (HZ.out _ H0.out).mono ?_
  rintro e w' ⟨rfl, rfl⟩
  go_wp2_with fail
  refine (HM.out _ H0.out).mono ?_
  rintro e w' ⟨rfl, rfl⟩
  go_wp2_with fail
  refine (HA.out _ H0.out).mono ?_
  rintro e w1 ⟨a2, cap2, rfl, hr1, hb1⟩
  have R1 := Lib.hid hr1
  have H1 := Lib.hid (H0.out.below hb1)
  have B1 := Lib.hid hb1
  clear hr1 hb1
  go_wp2_with fail
  refine (index_any _ _ _ _ _ _ _ _ _ H1.out R1.out).mono ?_
  rw [HIX.out]
  rintro e w2 ⟨rfl, hb2⟩
  have R2 := Lib.hid (R1.out.below hb2)
  have H2 := Lib.hid (H1.out.below hb2)
  have B2 := Lib.hid (B1.out.step hb2)
  clear hb2
  go_wp2_with fail
  refine (HS.out _ H2.out).mono ?_
  rintro e w3 ⟨a3, cap3, rfl, hr3, hb3⟩
  have R3 := Lib.hid (R2.out.below hb3)
  have H3 := Lib.hid (H2.out.below hb3)
  have S3 := Lib.hid hr3
  have B3 := Lib.hid (B2.out.step hb3)
  clear hr3 hb3
  go_wp2
  go_loopw [7, 51] (fun n i wr => ∃ (k : Nat) (N : Int) (q : Nat), k ≤ len0 ∧ 0 ≤ N ∧ N + Sh.prod (d.drop k) ≤ Sh.prod d ∧ i = .int .i64 k ∧ n = .int .i64 N ∧ Sh.idx N (d.drop k) (D.drop k) = T ∧ wr = w3.drewN q) (fun _ i _ => len0 - (intOf i).toNat)
  case atStart => exact ⟨0, 0, 0, Nat.zero_le _, by omega, by simp, rfl, rfl, HI0.out, rfl⟩
  case round =>
    obtain ⟨k, N, q, hk, n0, hn, rfl, rfl, hs, rfl⟩ := hrel
    by_cases hlt : k < len0
    · obtain ⟨b0, o0, rfl, e0⟩ := H3.out.cells (by omega)
      obtain ⟨b1, o1, rfl, e1⟩ := R3.out.cells (by omega)
      obtain ⟨b2, o2, rfl, e2⟩ := S3.out.cells (by omega)
      have f0 := e0 k hlt
      have f1 := e1 k hlt
      have f2 := e2 k hlt
      rw [Sh.drop_cons d k (by have := hl.out; omega), Sh.drop_cons D k (by rw [R1.out.len_eq]; exact hlt)] at hs
      have hp := HY.out.drop_pos (k + 1)
      have hp2 := HY.out.drop_le (k + 1) (by have := hl.out; omega)
      have hq := Sh.prod_drop_succ d k (by have := hl.out; omega)
      have hx := HY.out.get (show k < d.length by have := hl.out; omega)
      have hg : (Sh.strides d).getD k 0 = Sh.prod (d.drop (k + 1)) := Sh.strides_get d k (by have := hl.out; omega)
      obtain ⟨c1, c2⟩ := G1.out k (by have := hl.out; omega)
      rw [hg] at f2
      have hle := HY.out.le
      clear e0 e1 e2 hg
      generalize d.getD k 0 = x at *
      generalize D.getD k 0 = a at *
      generalize hpp : Sh.prod (d.drop (k + 1)) = p at *
      have HP := Lib.hid hpp
      clear hpp
      have hc2 : decide (x ≤ a) = false := decide_eq_false (by omega)
      have hc1 : decide (a < 0) = false := decide_eq_false (by omega)
      have hc0 : decide ((len0 : Int) ≤ (k : Int)) = false := decide_eq_false (by omega)
      obtain ⟨s0, s1⟩ := Sh.idx_step (N := N) c1 c2 hp hq
      rw [Sh.idx_yes (by omega), HP.out] at hs
      have HS := Lib.hid hs
      have HN := Lib.hid (show N + a * p + p ≤ Sh.prod d by omega)
      have u1 : a * p ≤ 8192 := by omega
      have u2 : N ≤ 8192 := by omega
      clear hs hq hn
      go_wp2
      go_quiet (fail)
      go_wp2
      go_roundw
      case rel => exact ⟨k + 1, N + a * p, q + nq, by omega, by omega, by rw [HP.out]; exact HN.out, by go_num, rfl, HS.out, rfl⟩
      case measure => simp [intOf]; omega
    · have hke : k = len0 := by omega
      have hN : N = T := by
        rw [hke, List.drop_of_length_le (by have := hl.out; omega), List.drop_of_length_le (by rw [R1.out.len_eq]; omega)] at hs
        exact hs
      obtain rfl := hN
      have H4 := Lib.hid (H3.out.below (below_drewN w3 q))
      have B4 := Lib.hid (B3.out.draws q)
      clear hs hke hn
      generalize w3.drewN q = w4 at *
      go_wp2_with fail
      refine (HA2.out _ H4.out).mono ?_
      rintro e w' ⟨rfl, rfl⟩
      go_wp2_with fail
      refine (HA3.out _ H4.out).mono ?_
      rintro e w' ⟨rfl, rfl⟩
      go_wp2_with (go_at_call 11; refine (awake7_any _).mono ?_; rintro e w5 ⟨rfl, hb5⟩)
      go_ret
      exact ⟨rfl, B4.out.step hb5⟩
theorem shapeBack_any (a0 : Option Addr) (len0 cap0 : Nat) (z0 : List Int) (a1 : Int) (w : World) (w0 : IsRow .i64 8 w a0 len0 cap0 z0) (w1 : (Lit.int .i64 a1).wf = true) :
    Calls Try.prog 6 #[.slice a0 len0 cap0, .int .i64 a1] w fun e w' => e = .returned (.bool true) ∧ Below w.heap.size w w' := by
  have r := w0.at (by omega)
  by_cases h : 0 < Sh.size (z0.take len0)
  · exact shapeBack_yes a0 len0 cap0 _ a1 w r h
  · exact shapeBack_no a0 len0 cap0 _ a1 w r h
end Go.Proofs.Ytmebchgjofpepaa
