/-
  The walks of Bits, and of RoundBits: so many bits hold the number, and one less do not; clamped to one more it stays.
-/
import Derived.Test.YtfmoolnoalomeaaRoundLaws
import Derived.Test.YtfmoolnoalomeaaShelf
import Derived.Lib.ItoaNum
namespace Go.Proofs.Ytfmoolnoalomeaa
open Go.RowKit
set_option linter.unusedVariables false

def Rd.bits (v : Int) : Nat := Lib.bitLen (max (Rd.val v) (-Rd.val v)).toNat
theorem bits_any (v : Int) (w : World) : Calls Try.prog 23 #[.int .i64 v] w fun e w' => e = .returned (.int .i64 (Rd.bits v : Nat)) ∧ w = w' := by
  unfold Rd.bits
  obtain ⟨V, hV⟩ : ∃ V, Rd.val v = V := ⟨_, rfl⟩
  have v1 : -4611686018427387904 ≤ V := hV ▸ Rd.val_lo v
  have v2 : V ≤ 4611686018427387904 := hV ▸ Rd.val_hi v
  have HV := Lib.hid (fun w => hV ▸ value_any v w)
  rw [hV]
  clear hV
  have m1 : 0 ≤ max V (-V) := by omega
  have m2 : max V (-V) ≤ 4611686018427387904 := by omega
  have HL := Lib.hid (fun w => Try.bits_Len64 (max V (-V)) w m1 (by omega))
  go_enter Try.func23, Try.ntmps23
  go_wp2_with fail
  refine (HV.out _).mono ?_
  rintro e w2 ⟨rfl, rfl⟩
  go_wp2_with fail
  refine (HL.out _).mono ?_
  rintro e w2 ⟨rfl, rfl⟩
  go_wp2
  go_ret
  exact ⟨rfl, rfl⟩

namespace Rd
theorem bits_zero : bits 0 = 0 := by decide
/-- Of a number that is not nothing: how many bits, less one. -/
theorem bits_spec (V M : Int) (h0 : V ≠ 0) (h1 : -2147483648 < V) (h2 : V < 2147483648) (hM : M = max V (-V)) :
    ∃ (T : Nat) (Q P : Int), bits V = T + 1 ∧ T ≤ 30 ∧ (2 : Int) ^ T = Q ∧ (2 : Int) ^ (T + 1) = P ∧ 1 ≤ Q ∧ P = 2 * Q ∧ Q ≤ 1073741824 ∧ Q ≤ M ∧ M < P ∧ clamp V ((T : Int) + 1 + 1) = V ∧ clamp V 2 = max (-1) (min V 1) := by
  have hv : val V = V := val_of (by omega) (by omega)
  unfold bits
  rw [hv, ← hM]
  obtain ⟨m, rfl⟩ := Int.eq_ofNat_of_zero_le (show 0 ≤ M by omega)
  rw [Int.toNat_natCast]
  have hb := Lib.bitLenAux_bounds 64 m (by omega) (by omega)
  have hb' : 1 ≤ Lib.bitLen m ∧ 2 ^ (Lib.bitLen m - 1) ≤ m ∧ m < 2 ^ Lib.bitLen m := hb
  have hl : Lib.bitLen m ≤ 31 := Lib.bitLen_le m 31 (by decide) (by omega)
  obtain ⟨T, hT⟩ : ∃ T, Lib.bitLen m = T + 1 := ⟨Lib.bitLen m - 1, by omega⟩
  rw [hT] at hb' hl ⊢
  obtain ⟨_, b1, b2⟩ := hb'
  rw [Nat.add_sub_cancel] at b1
  have eP : (2 : Int) ^ (T + 1) = 2 * 2 ^ T := by rw [Int.pow_succ, Int.mul_comm]
  have p := pow_le (show T ≤ 30 by omega)
  have q := pow_pos T
  have e : (2 : Int) ^ 30 = 1073741824 := by decide
  rw [e] at p
  have c1 : (2 : Int) ^ T ≤ (m : Int) := by exact_mod_cast b1
  have c2 : (m : Int) < (2 : Int) ^ (T + 1) := by exact_mod_cast b2
  refine ⟨T, 2 ^ T, 2 ^ (T + 1), rfl, by omega, rfl, rfl, by omega, eP, p, c1, c2, ?_, ?_⟩
  · rw [clamp_eq, show (T : Int) + 1 + 1 = ((T + 1 : Nat) : Int) + 1 by omega, wid_of (by omega)]
    generalize (2 : Int) ^ (T + 1) = P at *
    unfold btw; omega
  · rw [clamp_eq, show (2 : Int) = ((1 : Nat) : Int) + 1 by omega, wid_of (by omega)]
    unfold btw; omega
end Rd

set_option maxHeartbeats 1000000 in
theorem roundBits_any (a0 : Int) (w : World) (w0 : (Lit.int .i64 a0).wf = true) :
    Calls Try.prog 12 #[.int .i64 a0] w fun e w' => e = .returned (.bool true) ∧ Below w.heap.size w w' := by
  obtain ⟨V, v1, v2, eV⟩ := tmod_const a0 2147483648 (by decide)
  clear w0
  by_cases h0 : V = 0
  · have k0 : Rd.bits V = 0 := by rw [h0]; decide
    have k1 : Rd.clamp V 1 = V := by rw [h0]; decide
    have k2 : Rd.clamp V 2 = max (-1) (min V 1) := by rw [h0]; decide
    have k3 : max V (-V) < 1 := by omega
    have HB := Lib.hid (fun w => k0 ▸ bits_any V w)
    have H1 := Lib.hid (fun w => k1 ▸ clamp_any V 1 w)
    have H2 := Lib.hid (fun w => k2 ▸ clamp_any V 2 w)
    clear k0 k1 k2 h0
    go_enter Try.func12, Try.ntmps12
    go_wp2_with fail
    refine (HB.out _).mono ?_
    rintro e w' ⟨rfl, rfl⟩
    go_wp2_with fail
    refine (H1.out _).mono ?_
    rintro e w' ⟨rfl, rfl⟩
    go_wp2_with fail
    refine (H2.out _).mono ?_
    rintro e w' ⟨rfl, rfl⟩
    go_wp2_with (go_at_call 19; refine (awake2_any _).mono ?_; rintro e w3 ⟨rfl, n5, rfl⟩)
    go_ret
    exact ⟨rfl, below_drewN _ _⟩
  · obtain ⟨T, Q, P, e1, t0, hQ, hP, q0, hp, q1, m0, m1, e2, e3⟩ := Rd.bits_spec V (max V (-V)) h0 v1 v2 rfl
    have HB := Lib.hid (fun w => e1 ▸ bits_any V w)
    have H1 := Lib.hid (fun w => e2 ▸ clamp_any V ((T : Int) + 1 + 1) w)
    have HP := Lib.hid hp
    have p1 : P ≤ 2147483648 := by omega
    have p2 : 2 ≤ P := by omega
    have hw : wrap64 P = P := IntWalk.wrap64_in _ ⟨by omega, by omega⟩
    have hw' : wrap64 Q = Q := IntWalk.wrap64_in _ ⟨by omega, by omega⟩
    have H2 := Lib.hid (fun w => e3 ▸ clamp_any V 2 w)
    clear e1 e2 e3 h0 hp
    go_enter Try.func12, Try.ntmps12
    go_wp2_with fail
    refine (HB.out _).mono ?_
    rintro e w' ⟨rfl, rfl⟩
    go_wp2_with fail
    refine (H1.out _).mono ?_
    rintro e w' ⟨rfl, rfl⟩
    go_wp2_with fail
    refine (H2.out _).mono ?_
    rintro e w' ⟨rfl, rfl⟩
    go_wp2_with (go_at_call 19; refine (awake2_any _).mono ?_; rintro e w3 ⟨rfl, n5, rfl⟩)
    go_ret
    exact ⟨rfl, below_drewN _ _⟩
end Go.Proofs.Ytfmoolnoalomeaa
