/-
  The number of a window's element, as it is reckoned.
-/
import Derived.Test.YtaijiihlkcbdhaaPoolMaxPlain2
namespace Go.Proofs.Ytaijiihlkcbdhaa
open Go.RowKit
set_option linter.unusedVariables false
namespace T
/-- The number of a window's element. -/
def zz (R C s : Int) (N A2 A3 r c : Nat) : Int := ((N * R + A2 * s + r) * C + A3 * s + c)
theorem z_wraps {A0 D1 A1 R s C : Int} {N A2 A3 r c : Nat} (hN : A0 * D1 + A1 = N) (a0 : 0 ≤ A0 * D1) (a1 : A0 * D1 ≤ 8192) (a2 : 0 ≤ A1) (a3 : A1 ≤ 8192) (hR : 0 ≤ R) (hs : 0 ≤ s) (hC : 1 ≤ C) (hz : zz R C s N A2 A3 r c ≤ 8192) :
    ∃ m0 m1 m2 m3 m4 m5 m6 m7 : Int, IntKind.i64.wrap (A0 * D1) = m0 ∧ IntKind.i64.wrap (m0 + A1) = N ∧ IntKind.i64.wrap (N * R) = m1 ∧ IntKind.i64.wrap (A2 * s) = m2 ∧ IntKind.i64.wrap (m1 + m2) = m3 ∧ IntKind.i64.wrap (m3 + r) = m4 ∧
      IntKind.i64.wrap (m4 * C) = m5 ∧ IntKind.i64.wrap (A3 * s) = m6 ∧ IntKind.i64.wrap (m5 + m6) = m7 ∧ IntKind.i64.wrap (m7 + c) = zz R C s N A2 A3 r c := by
  unfold zz at hz ⊢
  have p1 := Int.mul_nonneg (show 0 ≤ (N : Int) by omega) hR
  have p2 := Int.mul_nonneg (show 0 ≤ (A2 : Int) by omega) hs
  have p3 := Int.mul_nonneg (show 0 ≤ (A3 : Int) by omega) hs
  refine ⟨A0 * D1, N * R, A2 * s, N * R + A2 * s, N * R + A2 * s + r, (N * R + A2 * s + r) * C, A3 * s, (N * R + A2 * s + r) * C + A3 * s, ?_⟩
  have p4 := Int.mul_le_mul_of_nonneg_left hC (show 0 ≤ (N : Int) * R + A2 * s + r by omega)
  rw [Int.mul_one] at p4
  rw [hN]
  generalize A0 * D1 = x0 at *
  generalize (N : Int) * R = x1 at *
  generalize (A2 : Int) * s = x2 at *
  generalize (A3 : Int) * s = x3 at *
  generalize (x1 + x2 + r) * C = x4 at *
  refine ⟨?_, ?_, ?_, ?_, ?_, ?_, ?_, ?_, ?_, ?_⟩ <;> exact IntWalk.i64_in _ (by omega)
/-- All that is asked of one window. -/
theorem window {d : List Int} {e : Int} {z : List Int} {k s : Int} (ht : may d e z) (ho : overOk d k s) {j : Nat} (hj : j < count d k s) :
    ∃ (A0 A1 : Int) (N A2 A3 f r0 c0 : Nat), Sh.digits (Sh.strides (outDims d k s)) j = [A0, A1, (A2 : Int), (A3 : Int)] ∧ (topOf d z k s).getD j 0 = f ∧ f < z.length ∧ (maxOf d z k s).getD j 0 = z.getD f 0 ∧ A0 * d.getD 1 0 + A1 = N ∧ 0 ≤ A0 * d.getD 1 0 ∧ A0 * d.getD 1 0 ≤ 8192 ∧ 0 ≤ A1 ∧ A1 ≤ 8192 ∧
      r0 < k.toNat ∧ c0 < k.toNat ∧ (f : Int) = zz (d.getD 2 0) (d.getD 3 0) s N A2 A3 r0 c0 ∧ ∀ r c : Nat, r < k.toNat → c < k.toNat → ∃ zn : Nat, zz (d.getD 2 0) (d.getD 3 0) s N A2 A3 r c = zn ∧ zn < z.length ∧ z.getD zn 0 ≤ z.getD f 0 := by
  obtain ⟨A0, A1, g1, g2, g3, g4, g5, g6, g7, g8⟩ := at_out ht ho hj
  obtain ⟨⟨r0, c0, hr0, hc0, e0⟩, hall⟩ := top_law ht ho hj
  obtain ⟨i1, i2, i3⟩ := topOf_in ht ho hj
  generalize hF : (topOf d z k s).getD j 0 = F at *
  obtain ⟨f, rfl⟩ : ∃ f : Nat, F = f := ⟨F.toNat, by omega⟩
  rw [Int.toNat_natCast] at i3
  have hm : (maxOf d z k s).getD j 0 = z.getD f 0 := i3
  refine ⟨A0, A1, _, _, _, f, r0, c0, g1, rfl, by omega, hm, g2, g7, g8, g5, g6, hr0, hc0, e0, fun r c hr hc => ?_⟩
  obtain ⟨h1, h2, h3⟩ := hall r c hr hc
  have e1 : zAt (d.getD 2 0) (d.getD 3 0) s (rowsOf d k s) (colsOf d k s) j r c = zz (d.getD 2 0) (d.getD 3 0) s (j / (rowsOf d k s * colsOf d k s)) (j % (rowsOf d k s * colsOf d k s) / colsOf d k s) (j % (rowsOf d k s * colsOf d k s) % colsOf d k s) r c := rfl
  rw [e1] at h1 h2 h3
  rw [hm] at h3
  exact ⟨_, (Int.toNat_of_nonneg h1).symm, by omega, h3⟩
end T
end Go.Proofs.Ytaijiihlkcbdhaa
