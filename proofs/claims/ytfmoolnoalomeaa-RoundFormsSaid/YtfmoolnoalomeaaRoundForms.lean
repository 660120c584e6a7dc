/-
  The walks of the reference's shifts and widths, and of RoundForms: the program's and the reference's are the same.
-/
import Derived.Test.YtfmoolnoalomeaaRoundBits
namespace Go.Proofs.Ytfmoolnoalomeaa
open Go.RowKit
set_option linter.unusedVariables false

theorem within_any (n lo hi : Int) (w : World) : Calls Try.prog 36 #[.int .i64 n, .int .i64 lo, .int .i64 hi] w fun e w' => e = .returned (.int .i64 (Rd.btw n lo hi)) ∧ w = w' := by
  go_enter Try.func36, Try.ntmps36
  go_wp2
  all_goals (go_ret; exact ⟨rfl, rfl⟩)
theorem within_shf (s : Int) (w : World) : Calls Try.prog 36 #[.int .i64 s, .int .i64 0, .int .i64 62] w fun e w' => e = .returned (.int .i64 (Rd.shf s : Nat)) ∧ w = w' :=
  (within_any s 0 62 w).mono fun _ _ ⟨a, b⟩ => ⟨a.trans (ret_int (by unfold Rd.shf Rd.btw; omega)), b⟩
theorem taken_any (v s : Int) (w : World) : Calls Try.prog 35 #[.int .i64 v, .int .i64 s] w fun e w' => e = .returned (.tuple #[.int .i64 (Rd.val v), .int .u64 (Rd.shf s : Nat)]) ∧ w = w' := by
  have h1 := Rd.shf_le s
  go_enter Try.func35, Try.ntmps35
  go_wp2_with fail
  refine (within_any _ _ _ _).mono ?_
  rintro e w2 ⟨rfl, rfl⟩
  go_wp2_with fail
  refine (within_shf _ _).mono ?_
  rintro e w2 ⟨rfl, rfl⟩
  go_wp2
  go_ret2
  exact ⟨rfl, rfl⟩
theorem refDown_any (v s : Int) (w : World) : Calls Try.prog 24 #[.int .i64 v, .int .i64 s] w fun e w' => e = .returned (.int .i64 (Rd.down v s)) ∧ w = w' := by
  have h1 := Rd.shf_le s
  go_enter Try.func24, Try.ntmps24
  go_wp2_with fail
  refine (taken_any _ _ _).mono ?_
  rintro e w2 ⟨rfl, rfl⟩
  go_wp2
  go_ret
  exact ⟨rfl, rfl⟩
theorem refNear_any (v s : Int) (w : World) : Calls Try.prog 25 #[.int .i64 v, .int .i64 s] w fun e w' => e = .returned (.int .i64 (Rd.near v s)) ∧ w = w' := by
  unfold Rd.near
  have h1 := Rd.shf_le s
  by_cases h : Rd.shf s = 0
  · rw [if_pos h]
    have HT := Lib.hid (fun w => h ▸ taken_any v s w)
    clear h h1
    go_enter Try.func25, Try.ntmps25
    go_wp2_with fail
    refine (HT.out _).mono ?_
    rintro e w2 ⟨rfl, rfl⟩
    go_wp2
    go_ret
    exact ⟨rfl, rfl⟩
  · rw [if_neg h]
    obtain ⟨T, hT⟩ : ∃ T, Rd.shf s = T + 1 := ⟨Rd.shf s - 1, by omega⟩
    have HT := Lib.hid (fun w => hT ▸ taken_any v s w)
    rw [hT] at h1 ⊢
    clear h hT
    rw [Nat.add_sub_cancel]
    have h2 := Rd.val_lo v
    have h3 := Rd.val_hi v
    go_enter Try.func25, Try.ntmps25
    go_wp2_with fail
    refine (HT.out _).mono ?_
    rintro e w2 ⟨rfl, rfl⟩
    go_wp2
    go_ret
    exact ⟨ret_int (by rw [Rd.near_wrap h1 h2 h3]), rfl⟩
theorem refChance_any (v s r : Int) (hr : (Lit.int .u64 r).wf = true) (w : World) : Calls Try.prog 26 #[.int .i64 v, .int .i64 s, .int .u64 r] w fun e w' => e = .returned (.int .i64 (Rd.chance v s r)) ∧ w = w' := by
  have h1 := Rd.shf_le s
  have h2 := Rd.val_lo v
  have h3 := Rd.val_hi v
  have hr' := Lib.hid hr
  clear hr
  go_enter Try.func26, Try.ntmps26
  go_wp2_with fail
  refine (taken_any _ _ _).mono ?_
  rintro e w2 ⟨rfl, rfl⟩
  go_wp2
  go_ret
  exact ⟨ret_int (by rw [Rd.chance_wrap (h1 := h1) h2 h3 hr'.out]; rfl), rfl⟩
theorem within_wid (s : Int) (w : World) : Calls Try.prog 36 #[.int .i64 s, .int .i64 1, .int .i64 32] w fun e w' => e = .returned (.int .i64 ((Rd.wid s + 1 : Nat) : Int)) ∧ w = w' :=
  (within_any s 1 32 w).mono fun _ _ ⟨a, b⟩ => ⟨a.trans (ret_int (by unfold Rd.wid Rd.btw; omega)), b⟩
theorem refClamp_any (v s : Int) (w : World) : Calls Try.prog 28 #[.int .i64 v, .int .i64 s] w fun e w' => e = .returned (.int .i64 (Rd.clamp v s)) ∧ w = w' := by
  have h1 := Rd.wid_le s
  go_enter Try.func28, Try.ntmps28
  go_wp2_with fail
  refine (within_wid _ _).mono ?_
  rintro e w2 ⟨rfl, rfl⟩
  go_wp2_with fail
  refine (within_any _ _ _ _).mono ?_
  rintro e w2 ⟨rfl, rfl⟩
  go_wp2
  go_ret
  exact ⟨ret_int (by rw [(Rd.clamp_wrap s).1, (Rd.clamp_wrap s).2, Rd.clamp_eq]), rfl⟩
theorem Rd.half_step {j U : Nat} (h0 : U ≠ 0) (h : U < 2 ^ 64) : j + 1 + Lib.bitLen (U / 2) = j + Lib.bitLen U := by
  rw [Lib.bitLen_half U h0 h]; omega
theorem Rd.bitLen_nil : Lib.bitLen 0 = 0 := by decide
theorem refBits_any (v : Int) (w : World) : Calls Try.prog 27 #[.int .i64 v] w fun e w' => e = .returned (.int .i64 (Rd.bits v : Nat)) ∧ w = w' := by
  unfold Rd.bits
  obtain ⟨V, hV⟩ : ∃ V, Rd.val v = V := ⟨_, rfl⟩
  have v1 : -4611686018427387904 ≤ V := hV ▸ Rd.val_lo v
  have v2 : V ≤ 4611686018427387904 := hV ▸ Rd.val_hi v
  have HV := Lib.hid (fun w => hV ▸ taken_any v 0 w)
  rw [hV]
  clear hV
  obtain ⟨m, hm⟩ := Int.eq_ofNat_of_zero_le (show 0 ≤ max V (-V) by omega)
  have m2 : m ≤ 4611686018427387904 := by omega
  rw [hm, Int.toNat_natCast]
  obtain ⟨B, hB⟩ : ∃ B, Lib.bitLen m = B := ⟨_, rfl⟩
  have b1 : B ≤ 64 := by rw [← hB]; exact Lib.bitLen_le m 64 (by decide) (by omega)
  have HB := Lib.hid hB
  rw [hB]
  clear hB
  go_enter Try.func27, Try.ntmps27
  go_wp2_with fail
  refine (HV.out _).mono ?_
  rintro e w2 ⟨rfl, rfl⟩
  go_wp2
  go_loop [3, 4] (fun n u => ∃ j U : Nat, n = .int .i64 j ∧ u = .int .i64 U ∧ U ≤ 4611686018427387904 ∧ j + Lib.bitLen U = B) (fun _ u => (intOf u).toNat)
  case atStart => exact ⟨0, m, rfl, rfl, m2, by rw [Nat.zero_add]; exact HB.out⟩
  case round =>
    obtain ⟨j, U, rfl, rfl, hU, hj⟩ := hrel
    have jb : j ≤ 64 := by omega
    have HJ := Lib.hid hj
    clear hj
    by_cases h0 : U = 0
    · have HJ2 := Lib.hid (by have := HJ.out; rw [h0, Rd.bitLen_nil, Nat.add_zero] at this; exact this : j = B)
      have h00 : (U : Int) ≤ 0 := by omega
      clear h0 HJ
      go_wp2
      go_ret
      exact ⟨ret_int (by have := HJ2.out; omega), rfl⟩
    · have h00 : (0 : Int) < (U : Int) := by omega
      have HJ2 := Lib.hid ((Rd.half_step (j := j) h0 (by omega)).trans HJ.out)
      have HU := Lib.hid h0
      clear h0 HJ
      go_wp2
      go_round
      case rel => exact ⟨j + 1, U / 2, by go_num, by simp, by omega, HJ2.out⟩
      case measure => have := HU.out; simp [intOf]; omega
theorem Rd.alignBy_7 {V D : Int} (h : 20 < D) (h2 : V ≠ 0) : Rd.btw (wrap64 (Rd.btw (Rd.btw V (-1) 1) (-1048576) 1048576 * 1048576)) (-1048576) 1048576 = Rd.alignBy V D := by
  unfold Rd.alignBy
  rw [if_neg (by omega), if_pos h]
  by_cases c : 0 < V
  · rw [if_pos c, show Rd.btw V (-1) 1 = 1 by unfold Rd.btw; omega, show Rd.btw 1 (-1048576) 1048576 * 1048576 = 1048576 by decide, IntWalk.wrap64_in _ ⟨by decide, by decide⟩]; decide
  · rw [if_neg c, if_pos (by omega), show Rd.btw V (-1) 1 = -1 by unfold Rd.btw; omega, show Rd.btw (-1) (-1048576) 1048576 * 1048576 = -1048576 by decide, IntWalk.wrap64_in _ ⟨by decide, by decide⟩]; decide
theorem refAlign_any (v f t : Int) (w : World) : Calls Try.prog 29 #[.int .i64 v, .int .i64 f, .int .i64 t] w fun e w' => e = .returned (.int .i64 (Rd.align v f t)) ∧ w = w' := by
  unfold Rd.align
  obtain ⟨F, hF⟩ : ∃ F, Rd.btw f (-1000) 1000 = F := ⟨_, rfl⟩
  obtain ⟨T, hT⟩ : ∃ T, Rd.btw t (-1000) 1000 = T := ⟨_, rfl⟩
  obtain ⟨V, hV⟩ : ∃ V, Rd.val v = V := ⟨_, rfl⟩
  have f1 : -1000 ≤ F := by rw [← hF]; unfold Rd.btw; omega
  have f2 : F ≤ 1000 := by rw [← hF]; unfold Rd.btw; omega
  have t1 : -1000 ≤ T := by rw [← hT]; unfold Rd.btw; omega
  have t2 : T ≤ 1000 := by rw [← hT]; unfold Rd.btw; omega
  have HF := Lib.hid (fun w => hF ▸ within_any f (-1000) 1000 w)
  have HT := Lib.hid (fun w => hT ▸ within_any t (-1000) 1000 w)
  have HV := Lib.hid (fun w => hV ▸ taken_any v 0 w)
  rw [hF, hT, hV]
  clear hF hT hV
  have cs : (F < T ∧ F - T < 0) ∨ (20 < F - T ∧ V ≠ 0) ∨ (20 < F - T ∧ V = 0) ∨ (0 ≤ F - T ∧ F - T ≤ 20) := by omega
  rcases cs with ⟨c1, c2⟩ | ⟨c1, c2⟩ | ⟨c1, rfl⟩ | ⟨c1, c2⟩
  · have HC := Lib.hid c2
    clear c2
    go_enter Try.func29, Try.ntmps29
    go_wp2_with fail
    refine (HV.out _).mono ?_
    rintro e w2 ⟨rfl, rfl⟩
    go_wp2_with fail
    refine (HF.out _).mono ?_
    rintro e w2 ⟨rfl, rfl⟩
    go_wp2_with fail
    refine (HT.out _).mono ?_
    rintro e w2 ⟨rfl, rfl⟩
    go_wp2
    go_ret
    exact ⟨ret_int (by unfold Rd.alignBy; rw [if_pos HC.out, show T - F = -(F - T) by omega]), rfl⟩
  · have hb : (V == 0) = false := by rw [beq_eq_false_iff_ne]; exact c2
    have HC := Lib.hid c2
    clear c2
    have c3 : T ≤ F := by omega
    go_enter Try.func29, Try.ntmps29
    go_wp2_with fail
    refine (HV.out _).mono ?_
    rintro e w2 ⟨rfl, rfl⟩
    go_wp2_with fail
    refine (HF.out _).mono ?_
    rintro e w2 ⟨rfl, rfl⟩
    go_wp2_with fail
    refine (HT.out _).mono ?_
    rintro e w2 ⟨rfl, rfl⟩
    go_wp2_with (go_at_call 36; refine (within_any _ _ _ _).mono ?_; rintro e w' ⟨rfl, rfl⟩)
    go_ret
    exact ⟨ret_int (by rw [show (T + 20 - T).toNat = 20 by omega]; exact Rd.alignBy_7 c1 HC.out), rfl⟩
  · have c3 : T ≤ F := by omega
    go_enter Try.func29, Try.ntmps29
    go_wp2_with fail
    refine (HV.out _).mono ?_
    rintro e w2 ⟨rfl, rfl⟩
    go_wp2_with fail
    refine (HF.out _).mono ?_
    rintro e w2 ⟨rfl, rfl⟩
    go_wp2_with fail
    refine (HT.out _).mono ?_
    rintro e w2 ⟨rfl, rfl⟩
    go_wp2
    go_ret
    exact ⟨ret_int (Rd.alignBy_5 c1), rfl⟩
  · have c3 : T ≤ F := by omega
    go_enter Try.func29, Try.ntmps29
    go_wp2_with fail
    refine (HV.out _).mono ?_
    rintro e w2 ⟨rfl, rfl⟩
    go_wp2_with fail
    refine (HF.out _).mono ?_
    rintro e w2 ⟨rfl, rfl⟩
    go_wp2_with fail
    refine (HT.out _).mono ?_
    rintro e w2 ⟨rfl, rfl⟩
    go_wp2_with (go_at_call 36; refine (within_any _ _ _ _).mono ?_; rintro e w' ⟨rfl, rfl⟩)
    go_ret
    exact ⟨ret_int (Rd.alignBy_6 c1 c2), rfl⟩

theorem roundForms_any (a0 a1 a2 a3 a4 a5 : Int) (w : World) (w0 : (Lit.int .i64 a0).wf = true) (w1 : (Lit.int .i64 a1).wf = true) (w2 : (Lit.int .i64 a2).wf = true) (w3 : (Lit.int .i64 a3).wf = true) (w4 : (Lit.int .i64 a4).wf = true) (w5 : (Lit.int .u64 a5).wf = true) :
    Calls Try.prog 13 #[.int .i64 a0, .int .i64 a1, .int .i64 a2, .int .i64 a3, .int .i64 a4, .int .u64 a5] w fun e w' => e = .returned (.bool true) ∧ Below w.heap.size w w' := by
  have W5 := Lib.hid w5
  clear w0 w1 w2 w3 w4 w5
  go_enter Try.func13, Try.ntmps13
  go_wp2_with (first
    | (go_at_call 17; refine (down_any _ _ _).mono ?_; rintro e w' ⟨rfl, rfl⟩)
    | (go_at_call 24; refine (refDown_any _ _ _).mono ?_; rintro e w' ⟨rfl, rfl⟩)
    | (go_at_call 20; refine (near_any _ _ _).mono ?_; rintro e w' ⟨rfl, n1, rfl⟩)
    | (go_at_call 25; refine (refNear_any _ _ _).mono ?_; rintro e w' ⟨rfl, rfl⟩)
    | (go_at_call 18; refine (chance_any _ _ _ W5.out _).mono ?_; rintro e w' ⟨rfl, n2, rfl⟩)
    | (go_at_call 26; refine (refChance_any _ _ _ W5.out _).mono ?_; rintro e w' ⟨rfl, rfl⟩)
    | (go_at_call 23; refine (bits_any _ _).mono ?_; rintro e w' ⟨rfl, rfl⟩)
    | (go_at_call 27; refine (refBits_any _ _).mono ?_; rintro e w' ⟨rfl, rfl⟩)
    | (go_at_call 21; refine (clamp_any _ _ _).mono ?_; rintro e w' ⟨rfl, rfl⟩)
    | (go_at_call 28; refine (refClamp_any _ _ _).mono ?_; rintro e w' ⟨rfl, rfl⟩)
    | (go_at_call 22; refine (align_any _ _ _ _).mono ?_; rintro e w' ⟨rfl, rfl⟩)
    | (go_at_call 29; refine (refAlign_any _ _ _ _).mono ?_; rintro e w' ⟨rfl, rfl⟩)
    | (go_at_call 19; refine (awake2_any _).mono ?_; rintro e w3 ⟨rfl, n3, rfl⟩))
  go_ret
  exact ⟨rfl, below_drewN _ _⟩
end Go.Proofs.Ytfmoolnoalomeaa
