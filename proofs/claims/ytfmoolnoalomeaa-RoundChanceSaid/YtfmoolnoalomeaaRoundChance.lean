/-
  The walk of RoundChance: chance rounds down, or up, just as often as the part that is lost says, of all of one period.
-/
import Derived.Test.YtfmoolnoalomeaaRoundLaws
namespace Go.Proofs.Ytfmoolnoalomeaa
open Go.RowKit
set_option linter.unusedVariables false

namespace Rd
theorem chance_spec (V : Int) (S : Nat) (hS : (S : Int) < 8) (h1 : -1125899906842624 < V) (h2 : V < 1125899906842624) :
    ∃ D L P X : Int, down V S = D ∧ (2 : Int) ^ S = P ∧ D * P = X ∧ V = X + L ∧ 0 ≤ L ∧ L < P ∧ 1 ≤ P ∧ P ≤ 128 ∧ -2251799813685248 ≤ X ∧ X ≤ 2251799813685248 ∧ -2251799813685248 ≤ D ∧ D ≤ 2251799813685248 ∧
      (∀ k : Nat, (k : Int) < P → L + k < P → chance V S k = D) ∧ (∀ k : Nat, (k : Int) < P → P ≤ L + k → chance V S k = D + 1) := by
  have p := pow_le (show S ≤ 7 by omega)
  have q := pow_pos S
  have e : (2 : Int) ^ 7 = 128 := by decide
  rw [e] at p
  unfold down chance
  rw [val_of (by omega) (by omega), shf_of (by omega)]
  have d0 := Int.mul_ediv_add_emod V (2 ^ S)
  have d1 := Int.emod_nonneg V (show (2 : Int) ^ S ≠ 0 by omega)
  have d2 := Int.emod_lt_of_pos V q
  have a0 : V / 2 ^ S ≤ 1125899906842624 := by
    apply Int.ediv_le_of_le_mul q
    have := Int.mul_le_mul_of_nonneg_left (show (1 : Int) ≤ 2 ^ S by omega) (show (0 : Int) ≤ 1125899906842624 by omega)
    omega
  have a1 : -1125899906842624 ≤ V / 2 ^ S := by
    apply Int.le_ediv_of_mul_le q
    have := Int.mul_le_mul_of_nonneg_left (show (1 : Int) ≤ 2 ^ S by omega) (show (0 : Int) ≤ 1125899906842624 by omega)
    rw [Int.neg_mul]
    omega
  rw [Int.mul_comm] at d0
  have hV : ∀ k : Int, V + k = (V % 2 ^ S + k) + V / 2 ^ S * 2 ^ S := fun k => by omega
  refine ⟨V / 2 ^ S, V % 2 ^ S, 2 ^ S, V / 2 ^ S * 2 ^ S, rfl, rfl, rfl, by omega, d1, d2, by omega, p, by omega, by omega, by omega, by omega, ?_, ?_⟩
  · intro k hk hl
    rw [Int.emod_eq_of_lt (by omega) hk, hV, Int.add_mul_ediv_right _ _ (show (2 : Int) ^ S ≠ 0 by omega), Int.ediv_eq_zero_of_lt (by omega) hl, Int.zero_add]
  · intro k hk hl
    have hb : V % 2 ^ S + (k : Int) = (V % 2 ^ S + k - 2 ^ S) + 1 * 2 ^ S := by omega
    rw [Int.emod_eq_of_lt (by omega) hk, hV, Int.add_mul_ediv_right _ _ (show (2 : Int) ^ S ≠ 0 by omega), hb, Int.add_mul_ediv_right _ _ (show (2 : Int) ^ S ≠ 0 by omega), Int.ediv_eq_zero_of_lt (by omega) (by omega)]
    omega
theorem u64_small {k : Nat} (h : (k : Int) < 128) : (Lit.int .u64 (k : Int)).wf = true := by
  apply WalkArith.wf_u64; omega
end Rd

set_option maxHeartbeats 1000000 in
theorem roundChance_any (a0 a1 : Int) (w : World) (w0 : (Lit.int .i64 a0).wf = true) (w1 : (Lit.int .i64 a1).wf = true) :
    Calls Try.prog 6 #[.int .i64 a0, .int .i64 a1] w fun e w' => e = .returned (.bool true) ∧ Below w.heap.size w w' := by
  obtain ⟨S, hS, eS⟩ := umod_const a1 8 (by decide)
  obtain ⟨V, v1, v2, eV⟩ := tmod_const a0 1125899906842624 (by decide)
  obtain ⟨D, L, P, X, hD, hP, hX, hV, l0, l1, p0, p1, x0, x1, d0, d1, t1, t2⟩ := Rd.chance_spec V S hS v1 v2
  have HD := Lib.hid (fun w => hD ▸ down_any V S w)
  have T1 := Lib.hid t1
  have T2 := Lib.hid t2
  have HV := Lib.hid hV
  have hL : V - X = L := by omega
  have hw : wrap64 P = P := IntWalk.wrap64_in _ ⟨by omega, by omega⟩
  have hu : IntKind.u64.wrap P = P := IntWalk.u64_in _ ⟨by omega, by omega⟩
  clear hD hV w0 w1 t1 t2
  go_enter Try.func6, Try.ntmps6
  go_wp2_with (go_at_call 17; refine (HD.out _).mono ?_; rintro e w2 ⟨rfl, rfl⟩)
  go_loopw [7, 28] (fun up i wr => ∃ k : Nat, (k : Int) ≤ P ∧ i = .int .u64 k ∧ up = .int .i64 (max 0 (k - (P - L))) ∧ Below w.heap.size w wr) (fun _ i _ => (P - intOf i).toNat)
  case atStart => exact ⟨0, by omega, rfl, by congr 1; omega, Below.refl _ _⟩
  case round =>
    obtain ⟨k, hk, rfl, rfl, hnx⟩ := hrel
    have GN := Lib.hid hnx
    clear hnx
    by_cases hlt : (k : Int) < P
    · by_cases hc : L + k < P
      · have HC := Lib.hid (fun w => T1.out k hlt hc ▸ chance_any V S k (Rd.u64_small (by omega)) w)
        obtain ⟨u, hu'⟩ : ∃ u, max 0 ((k : Int) - (P - L)) = u := ⟨_, rfl⟩
        obtain rfl : u = 0 := by omega
        go_wp2_with (go_at_call 18; refine (HC.out _).mono ?_; rintro e w2 ⟨rfl, n1, rfl⟩)
        go_roundw
        case rel => exact ⟨k + 1, by omega, by go_num, by congr 1; omega, GN.out.trans ((below_drewN _ _).mono GN.out.size)⟩
        case measure => simp [intOf]; omega
      · have e2 := T2.out k hlt (by omega)
        have w2 := Rd.u64_small (k := k) (by omega)
        have HC := Lib.hid (fun w => e2 ▸ chance_any V S k w2 w)
        clear e2 w2
        obtain ⟨u, hu'⟩ : ∃ u, max 0 ((k : Int) - (P - L)) = u := ⟨_, rfl⟩
        have u0 : 0 ≤ u := by omega
        have u1 : u ≤ 128 := by omega
        have u2 : u = k - (P - L) := by omega
        have U2 := Lib.hid u2
        clear u2
        go_wp2_with (go_at_call 18; refine (HC.out _).mono ?_; rintro e w2 ⟨rfl, n1, rfl⟩)
        go_roundw
        case rel => exact ⟨k + 1, by omega, by go_num, by have := U2.out; congr 1; omega, GN.out.trans ((below_drewN _ _).mono GN.out.size)⟩
        case measure => simp [intOf]; omega
    · have ek : max 0 ((k : Int) - (P - L)) = L := by omega
      go_wp2_with (go_at_call 19; refine (awake2_any _).mono ?_; rintro e w3 ⟨rfl, n5, rfl⟩)
      go_ret
      exact ⟨rfl, GN.out.trans ((below_drewN _ _).mono GN.out.size)⟩
end Go.Proofs.Ytfmoolnoalomeaa
