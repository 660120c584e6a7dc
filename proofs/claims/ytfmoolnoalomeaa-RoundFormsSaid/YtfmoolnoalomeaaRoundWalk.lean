/-
  The walks of the shifts that round, and widths.
-/
import Derived.Test.YtfmoolnoalomeaaKit
import Derived.Deep.QuietTactic
import Derived.BigQuiet
namespace Go.Proofs.Ytfmoolnoalomeaa
open Go.RowKit
set_option linter.unusedVariables false

namespace Rd
def btw (n lo hi : Int) : Int := max lo (min n hi)
def val (v : Int) : Int := btw v (-4611686018427387904) 4611686018427387904
def shf (s : Int) : Nat := (btw s 0 62).toNat
def down (v s : Int) : Int := val v / 2 ^ shf s
def near (v s : Int) : Int := if shf s = 0 then val v else (val v + 2 ^ (shf s - 1)) / 2 ^ shf s
def chance (v s r : Int) : Int := (val v + r % 2 ^ shf s) / 2 ^ shf s
theorem btw_ite (n lo hi : Int) : (if lo < (if hi < n then hi else n) then (if hi < n then hi else n) else lo) = btw n lo hi := by
  unfold btw; omega
end Rd

theorem Rd.btw_1 {n lo hi : Int} (h1 : lo < if hi < n then hi else n) (h2 : hi < n) : hi = Rd.btw n lo hi := by rw [if_pos h2] at h1; unfold Rd.btw; omega
theorem Rd.btw_2 {n lo hi : Int} (h1 : lo < if hi < n then hi else n) (h2 : n ≤ hi) : n = Rd.btw n lo hi := by rw [if_neg (by omega)] at h1; unfold Rd.btw; omega
theorem Rd.btw_3 {n lo hi : Int} (h1 : (if hi < n then hi else n) ≤ lo) : lo = Rd.btw n lo hi := by unfold Rd.btw; split at h1 <;> omega
theorem between_int (n lo hi : Int) (w : World) : Calls Try.prog 32 #[.int .i64 n, .int .i64 lo, .int .i64 hi] w fun e w' => e = .returned (.int .i64 (Rd.btw n lo hi)) ∧ w = w' := by
  go_enter Try.func32, Try.ntmps32
  go_wp2
  all_goals (go_ret; first | exact ⟨ret_int (Rd.btw_1 ‹_› ‹_›), rfl⟩ | exact ⟨ret_int (Rd.btw_2 ‹_› ‹_›), rfl⟩ | exact ⟨ret_int (Rd.btw_3 ‹_›), rfl⟩)
theorem between_int64 (n lo hi : Int) (w : World) : Calls Try.prog 33 #[.int .i64 n, .int .i64 lo, .int .i64 hi] w fun e w' => e = .returned (.int .i64 (Rd.btw n lo hi)) ∧ w = w' := by
  go_enter Try.func33, Try.ntmps33
  go_wp2
  all_goals (go_ret; first | exact ⟨ret_int (Rd.btw_1 ‹_› ‹_›), rfl⟩ | exact ⟨ret_int (Rd.btw_2 ‹_› ‹_›), rfl⟩ | exact ⟨ret_int (Rd.btw_3 ‹_›), rfl⟩)
theorem value_any (v : Int) (w : World) : Calls Try.prog 30 #[.int .i64 v] w fun e w' => e = .returned (.int .i64 (Rd.val v)) ∧ w = w' := by
  go_enter Try.func30, Try.ntmps30
  go_wp2_with (go_at_call 33; refine (between_int64 _ _ _ _).mono ?_; rintro e w' ⟨rfl, rfl⟩)
  go_ret
  exact ⟨rfl, rfl⟩
theorem shift_any (s : Int) (w : World) : Calls Try.prog 31 #[.int .i64 s] w fun e w' => e = .returned (.int .i64 (Rd.shf s : Nat)) ∧ w = w' := by
  go_enter Try.func31, Try.ntmps31
  go_wp2_with (go_at_call 32; refine (between_int _ _ _ _).mono ?_; rintro e w' ⟨rfl, rfl⟩)
  go_ret
  exact ⟨ret_int (by unfold Rd.shf Rd.btw; omega), rfl⟩
theorem Rd.shf_le (s : Int) : Rd.shf s ≤ 62 := by unfold Rd.shf Rd.btw; omega
theorem Rd.val_lo (v : Int) : -4611686018427387904 ≤ Rd.val v := by unfold Rd.val Rd.btw; omega
theorem Rd.val_hi (v : Int) : Rd.val v ≤ 4611686018427387904 := by unfold Rd.val Rd.btw; omega
theorem Rd.pow_le {T n : Nat} (h : T ≤ n) : (2 : Int) ^ T ≤ 2 ^ n := by
  have := Nat.pow_le_pow_right (n := 2) (by decide) h
  exact_mod_cast this
theorem Rd.pow_pos (T : Nat) : (0 : Int) < 2 ^ T := Int.pow_pos (by decide)
theorem Rd.near_wrap {V : Int} {T : Nat} (h1 : T + 1 ≤ 62) (h2 : -4611686018427387904 ≤ V) (h3 : V ≤ 4611686018427387904) : wrap64 (V + wrap64 (2 ^ T)) = V + 2 ^ T := by
  have p := Rd.pow_le (show T ≤ 61 by omega)
  have q := Rd.pow_pos T
  have e : (2 : Int) ^ 61 = 2305843009213693952 := by decide
  rw [e] at p
  rw [IntWalk.wrap64_in (2 ^ T) ⟨by omega, by omega⟩, IntWalk.wrap64_in _ ⟨by omega, by omega⟩]
theorem Rd.chance_wrap {V r : Int} {S : Nat} (h1 : S ≤ 62) (h2 : -4611686018427387904 ≤ V) (h3 : V ≤ 4611686018427387904) (hr : (Lit.int .u64 r).wf = true) :
    wrap64 (V + wrap64 (bits .and .u64 r (IntKind.u64.wrap (IntKind.u64.wrap (2 ^ S) - 1)))) = V + r % 2 ^ S := by
  have p := Rd.pow_le h1
  have q := Rd.pow_pos S
  have e : (2 : Int) ^ 62 = 4611686018427387904 := by decide
  rw [e] at p
  obtain ⟨r0, r1⟩ : 0 ≤ r ∧ r ≤ 18446744073709551615 := bounds_u64 hr
  rw [IntWalk.u64_in (2 ^ S) ⟨by omega, by omega⟩, IntWalk.u64_in (2 ^ S - 1) ⟨by omega, by omega⟩]
  rw [bits_mask .u64 64 (by decide) (fun n h0 h1 => IntWalk.u64_in n ⟨h0, by simp at h1; omega⟩) S (by omega) r r0 (by simp; omega)]
  have m0 := Int.emod_nonneg r (show (2 : Int) ^ S ≠ 0 by omega)
  have m1 := Int.emod_lt_of_pos r q
  rw [IntWalk.wrap64_in (r % 2 ^ S) ⟨by omega, by omega⟩, IntWalk.wrap64_in _ ⟨by omega, by omega⟩]
theorem Rd.wid_eq (s : Int) : Rd.btw s 1 32 = ((Rd.btw s 1 32).toNat - 1 + 1 : Nat) := by unfold Rd.btw; omega
theorem down_any (v s : Int) (w : World) : Calls Try.prog 17 #[.int .i64 v, .int .i64 s] w fun e w' => e = .returned (.int .i64 (Rd.down v s)) ∧ w = w' := by
  have h1 := Rd.shf_le s
  go_enter Try.func17, Try.ntmps17
  go_wp2_with (first
    | (go_at_call 30; refine (value_any _ _).mono ?_; rintro e w' ⟨rfl, rfl⟩)
    | (go_at_call 31; refine (shift_any _ _).mono ?_; rintro e w' ⟨rfl, rfl⟩))
  go_ret
  exact ⟨rfl, rfl⟩
theorem value_still (v : Int) (w : World) : Calls Try.prog 30 #[.int .i64 v] w fun e w' => e = .returned (.int .i64 (Rd.val v)) ∧ w' = w := (value_any v w).mono fun _ _ ⟨a, b⟩ => ⟨a, b.symm⟩
/-- It returns this; it may have drawn. -/
def Gives (v : Value) (w : World) (e : Ending) (w' : World) : Prop := e = .returned v ∧ ∃ n, w' = w.drewN n
theorem near_zero (v s : Int) (w : World) (h : Rd.shf s = 0) : Calls Try.prog 20 #[.int .i64 v, .int .i64 s] w (Gives (.int .i64 (Rd.val v)) w) := by
  have hb : (((Rd.shf s : Nat) : Int) == 0) = true := by rw [h]; rfl
  have H := Lib.hid h
  clear h
  go_enter Try.func20, Try.ntmps20
  go_wp2_with (first
    | (go_at_call 30; refine (value_any _ _).mono ?_; rintro e w' ⟨rfl, rfl⟩)
    | (go_at_call 31; refine (shift_any _ _).mono ?_; rintro e w' ⟨rfl, rfl⟩))
  go_ret
  exact ⟨rfl, 0, rfl⟩
theorem near_some (v s : Int) (w : World) (T : Nat) (h : Rd.shf s = T + 1) : Calls Try.prog 20 #[.int .i64 v, .int .i64 s] w (Gives (.int .i64 ((Rd.val v + 2 ^ T) / 2 ^ (T + 1))) w) := by
  have h1 : T + 1 ≤ 62 := h ▸ Rd.shf_le s
  have h2 := Rd.val_lo v
  have h3 := Rd.val_hi v
  have hb : (((T + 1 : Nat) : Int) == 0) = false := by rw [beq_eq_false_iff_ne]; omega
  have H := Lib.hid (fun w => h ▸ shift_any s w)
  clear h
  go_enter Try.func20, Try.ntmps20
  go_wp2_with (go_at_call 31; refine (H.out _).mono ?_; rintro e w' ⟨rfl, rfl⟩)
  go_quiet ((go_at_call 30; exact Calls.quiet_of_same (value_still _ _)))
  go_wp2
  go_ret
  exact ⟨ret_int (by rw [Rd.near_wrap h1 h2 h3]), nq, rfl⟩
theorem near_any (v s : Int) (w : World) : Calls Try.prog 20 #[.int .i64 v, .int .i64 s] w (Gives (.int .i64 (Rd.near v s)) w) := by
  unfold Rd.near
  by_cases h : Rd.shf s = 0
  · rw [if_pos h]; exact near_zero v s w h
  · rw [if_neg h]
    obtain ⟨T, hT⟩ : ∃ T, Rd.shf s = T + 1 := ⟨Rd.shf s - 1, by omega⟩
    rw [hT]
    exact near_some v s w T hT
theorem chance_any (v s r : Int) (hr : (Lit.int .u64 r).wf = true) (w : World) : Calls Try.prog 18 #[.int .i64 v, .int .i64 s, .int .u64 r] w (Gives (.int .i64 (Rd.chance v s r)) w) := by
  have h1 := Rd.shf_le s
  have h2 := Rd.val_lo v
  have h3 := Rd.val_hi v
  have hr' := Lib.hid hr
  clear hr
  go_enter Try.func18, Try.ntmps18
  go_wp2_with (go_at_call 31; refine (shift_any _ _).mono ?_; rintro e w' ⟨rfl, rfl⟩)
  go_quiet ((go_at_call 30; exact Calls.quiet_of_same (value_still _ _)))
  go_wp2
  go_ret
  exact ⟨ret_int (by rw [Rd.chance_wrap (h1 := h1) h2 h3 hr'.out]; rfl), nq, rfl⟩

/-- What Clamp bounds by. -/
def Rd.wid (w : Int) : Nat := (Rd.btw w 1 32).toNat - 1
theorem Rd.wid_le (w : Int) : Rd.wid w ≤ 31 := by unfold Rd.wid Rd.btw; omega
def Rd.clamp (v w : Int) : Int := Rd.btw (Rd.val v) (-(2 ^ Rd.wid w - 1)) (2 ^ Rd.wid w - 1)
theorem between_wid (s : Int) (w : World) : Calls Try.prog 32 #[.int .i64 s, .int .i64 1, .int .i64 32] w fun e w' => e = .returned (.int .i64 ((Rd.wid s + 1 : Nat) : Int)) ∧ w = w' :=
  (between_int s 1 32 w).mono fun _ _ ⟨a, b⟩ => ⟨a.trans (ret_int (by unfold Rd.wid Rd.btw; omega)), b⟩
theorem Rd.clamp_wrap (w : Int) : wrap64 (wrap64 (2 ^ Rd.wid w) - 1) = 2 ^ Rd.wid w - 1 ∧ wrap64 (-(2 ^ Rd.wid w - 1)) = -(2 ^ Rd.wid w - 1) := by
  have p := Rd.pow_le (Rd.wid_le w)
  have q := Rd.pow_pos (Rd.wid w)
  have e : (2 : Int) ^ 31 = 2147483648 := by decide
  rw [e] at p
  rw [IntWalk.wrap64_in (2 ^ Rd.wid w) ⟨by omega, by omega⟩]
  exact ⟨IntWalk.wrap64_in _ ⟨by omega, by omega⟩, IntWalk.wrap64_in _ ⟨by omega, by omega⟩⟩
theorem clamp_any (v s : Int) (w : World) : Calls Try.prog 21 #[.int .i64 v, .int .i64 s] w fun e w' => e = .returned (.int .i64 (Rd.clamp v s)) ∧ w = w' := by
  have h1 := Rd.wid_le s
  have H := Lib.hid (between_wid s)
  go_enter Try.func21, Try.ntmps21
  go_wp2_with (first
    | (go_at_call 32; refine (H.out _).mono ?_; rintro e w' ⟨rfl, rfl⟩)
    | (go_at_call 30; refine (value_any _ _).mono ?_; rintro e w' ⟨rfl, rfl⟩)
    | (go_at_call 33; refine (between_int64 _ _ _ _).mono ?_; rintro e w' ⟨rfl, rfl⟩))
  go_ret
  exact ⟨ret_int (by rw [(Rd.clamp_wrap s).1, (Rd.clamp_wrap s).2]; rfl), rfl⟩

def Rd.alignBy (V D : Int) : Int := if D < 0 then V / 2 ^ (min (-D) 62).toNat else if 20 < D then (if 0 < V then 1048576 else if V < 0 then -1048576 else 0) else Rd.btw (Rd.btw V (-1048576) 1048576 * 2 ^ D.toNat) (-1048576) 1048576
def Rd.align (v f t : Int) : Int := Rd.alignBy (Rd.val v) (Rd.btw f (-1000) 1000 - Rd.btw t (-1000) 1000)
theorem Rd.alignBy_1 {V D : Int} (h : D < 0) (h2 : 62 < -D) : V / 4611686018427387904 = Rd.alignBy V D := by
  unfold Rd.alignBy
  rw [if_pos h, show (min (-D) 62).toNat = 62 by omega]; rfl
theorem Rd.alignBy_2 {V D : Int} (h : D < 0) (h2 : -D ≤ 62) : V / 2 ^ (-D).toNat = Rd.alignBy V D := by
  unfold Rd.alignBy
  rw [if_pos h, show (min (-D) 62).toNat = (-D).toNat by omega]
theorem Rd.alignBy_3 {V D : Int} (h : 20 < D) (h2 : 0 < V) : 1048576 = Rd.alignBy V D := by
  unfold Rd.alignBy; rw [if_neg (by omega), if_pos h, if_pos h2]
theorem Rd.alignBy_4 {V D : Int} (h : 20 < D) (h2 : V < 0) : -1048576 = Rd.alignBy V D := by
  unfold Rd.alignBy; rw [if_neg (by omega), if_pos h, if_neg (by omega), if_pos h2]
theorem Rd.alignBy_5 {D : Int} (h : 20 < D) : 0 = Rd.alignBy 0 D := by
  unfold Rd.alignBy; rw [if_neg (by omega), if_pos h]; rfl
theorem Rd.mul_bound {X p M P : Int} (h1 : -M ≤ X) (h2 : X ≤ M) (h3 : 0 < p) (h4 : p ≤ P) (h5 : 0 ≤ M) : -(M * P) ≤ X * p ∧ X * p ≤ M * P := by
  have a : X * p ≤ M * p := Int.mul_le_mul_of_nonneg_right h2 (by omega)
  have b : M * p ≤ M * P := Int.mul_le_mul_of_nonneg_left h4 h5
  have c : -M * p ≤ X * p := Int.mul_le_mul_of_nonneg_right h1 (by omega)
  rw [Int.neg_mul] at c
  omega
theorem Rd.alignBy_6 {V D : Int} (h : 0 ≤ D) (h2 : D ≤ 20) : Rd.btw (wrap64 (Rd.btw V (-1048576) 1048576 * 2 ^ D.toNat)) (-1048576) 1048576 = Rd.alignBy V D := by
  unfold Rd.alignBy
  rw [if_neg (by omega), if_neg (by omega)]
  have p := Rd.pow_le (show D.toNat ≤ 20 by omega)
  have q := Rd.pow_pos D.toNat
  have e : (2 : Int) ^ 20 = 1048576 := by decide
  rw [e] at p
  have b := Rd.mul_bound (X := Rd.btw V (-1048576) 1048576) (M := 1048576) (by unfold Rd.btw; omega) (by unfold Rd.btw; omega) q p (by decide)
  rw [IntWalk.wrap64_in _ ⟨by omega, by omega⟩]
theorem align_any (v f t : Int) (w : World) : Calls Try.prog 22 #[.int .i64 v, .int .i64 f, .int .i64 t] w fun e w' => e = .returned (.int .i64 (Rd.align v f t)) ∧ w = w' := by
  unfold Rd.align
  obtain ⟨F, hF⟩ : ∃ F, Rd.btw f (-1000) 1000 = F := ⟨_, rfl⟩
  obtain ⟨T, hT⟩ : ∃ T, Rd.btw t (-1000) 1000 = T := ⟨_, rfl⟩
  obtain ⟨V, hV⟩ : ∃ V, Rd.val v = V := ⟨_, rfl⟩
  have f1 : -1000 ≤ F := by rw [← hF]; unfold Rd.btw; omega
  have f2 : F ≤ 1000 := by rw [← hF]; unfold Rd.btw; omega
  have t1 : -1000 ≤ T := by rw [← hT]; unfold Rd.btw; omega
  have t2 : T ≤ 1000 := by rw [← hT]; unfold Rd.btw; omega
  have HF := Lib.hid (fun w => hF ▸ between_int f (-1000) 1000 w)
  have HT := Lib.hid (fun w => hT ▸ between_int t (-1000) 1000 w)
  have HV := Lib.hid (fun w => hV ▸ value_any v w)
  rw [hF, hT, hV]
  clear hF hT hV
  have cs : (F - T < 0 ∧ 62 < -(F - T)) ∨ (F - T < 0 ∧ -(F - T) ≤ 62) ∨ (20 < F - T ∧ 0 < V) ∨ (20 < F - T ∧ V < 0) ∨ (20 < F - T ∧ V = 0) ∨ (0 ≤ F - T ∧ F - T ≤ 20) := by omega
  rcases cs with ⟨c1, c2⟩ | ⟨c1, c2⟩ | ⟨c1, c2⟩ | ⟨c1, c2⟩ | ⟨c1, rfl⟩ | ⟨c1, c2⟩
  all_goals
    go_enter Try.func22, Try.ntmps22
    go_wp2_with fail
    refine (HV.out _).mono ?_
    rintro e w' ⟨rfl, rfl⟩
    go_wp2_with fail
    refine (HF.out _).mono ?_
    rintro e w' ⟨rfl, rfl⟩
    go_wp2_with fail
    refine (HT.out _).mono ?_
    rintro e w' ⟨rfl, rfl⟩
    go_wp2_with (go_at_call 33; refine (between_int64 _ _ _ _).mono ?_; rintro e w' ⟨rfl, rfl⟩)
    go_ret
  · exact ⟨ret_int (Rd.alignBy_1 c1 c2), rfl⟩
  · exact ⟨ret_int (Rd.alignBy_2 c1 c2), rfl⟩
  · exact ⟨ret_int (Rd.alignBy_3 c1 c2), rfl⟩
  · exact ⟨ret_int (Rd.alignBy_4 c1 c2), rfl⟩
  · exact ⟨ret_int (Rd.alignBy_5 c1), rfl⟩
  · exact ⟨ret_int (Rd.alignBy_6 c1 c2), rfl⟩
end Go.Proofs.Ytfmoolnoalomeaa
