/-
  The law ShapeForms.
-/
import Derived.Test.YtmebchgjofpepaaShapeLaws
import Derived.Test.YtmebchgjofpepaaShapeRef
namespace Go.Proofs.Ytmebchgjofpepaa
open Go.RowKit
set_option linter.unusedVariables false

/-- A row of its own, or none. -/
def GivesAny (k : IntKind) (zs : List Int) (w : World) : Ending → World → Prop := fun e w' => ∃ a n c, e = .returned (.slice a n c) ∧ RowAt k w' a n zs ∧ Below w.heap.size w w'
def Sh.stridesA (d : List Int) : List Int := if 0 < Sh.size d then Sh.strides d else []
theorem strides_all (a : Option Addr) (len cap : Nat) (d : List Int) (w : World) (h : RowAt .i64 w a len d) : Calls Try.prog 22 #[.slice a len cap] w (GivesAny .i64 (Sh.stridesA d) w) := by
  unfold Sh.stridesA
  by_cases c : 0 < Sh.size d
  · rw [if_pos c]
    refine (strides_some a len cap d w h (Sh.may_of c)).mono ?_
    rintro e w' ⟨g, c', rfl, hr, hb⟩
    exact ⟨_, _, _, rfl, hr, hb⟩
  · rw [if_neg c]
    refine (strides_none a len cap d w h c).mono ?_
    rintro e w' ⟨rfl, rfl⟩
    exact ⟨_, _, _, rfl, RowAt.zero _ _ _, Below.refl _ _⟩
theorem refStrides_all (a : Option Addr) (len cap : Nat) (d : List Int) (w : World) (hcap : len ≤ cap) (h : RowAt .i64 w a len d) : Calls Try.prog 27 #[.slice a len cap] w (GivesAny .i64 (Sh.stridesA d) w) := by
  unfold Sh.stridesA
  by_cases c : 0 < Sh.size d
  · rw [if_pos c]
    refine (refStrides_some a len cap d w h (Sh.may_of c) hcap).mono ?_
    rintro e w' ⟨g, c', rfl, hr, hb⟩
    exact ⟨_, _, _, rfl, hr, hb⟩
  · rw [if_neg c]
    refine (refStrides_none a len cap d w h c).mono ?_
    rintro e w' ⟨rfl, rfl⟩
    exact ⟨_, _, _, rfl, RowAt.zero _ _ _, Below.refl _ _⟩
theorem at_all (a : Option Addr) (len cap : Nat) (d : List Int) (i : Int) (w : World) (h : RowAt .i64 w a len d) : Calls Try.prog 21 #[.slice a len cap, .int .i64 i] w (GivesAny .i64 (Sh.at' d i) w) := by
  unfold Sh.at'
  by_cases c : 0 ≤ i ∧ i < Sh.size d
  · rw [if_pos c]
    refine (at_some a len cap d i w h c.1 c.2).mono ?_
    rintro e w' ⟨g, c', rfl, hr, hb⟩
    exact ⟨_, _, _, rfl, hr, hb⟩
  · rw [if_neg c]
    refine (at_none a len cap d i w h c).mono ?_
    rintro e w' ⟨rfl, rfl⟩
    exact ⟨_, _, _, rfl, RowAt.zero _ _ _, Below.refl _ _⟩
theorem refAt_all (a : Option Addr) (len cap : Nat) (d : List Int) (i : Int) (w : World) (hcap : len ≤ cap) (h : RowAt .i64 w a len d) : Calls Try.prog 30 #[.slice a len cap, .int .i64 i] w (GivesAny .i64 (Sh.at' d i) w) := by
  unfold Sh.at'
  by_cases c : 0 ≤ i ∧ i < Sh.size d
  · rw [if_pos c]
    refine (refAt_some a len cap d i w hcap h c.1 c.2).mono ?_
    rintro e w' ⟨g, c', rfl, hr, hb⟩
    exact ⟨_, _, _, rfl, hr, hb⟩
  · rw [if_neg c]
    refine (refAt_none a len cap d i w h c).mono ?_
    rintro e w' ⟨rfl, rfl⟩
    exact ⟨_, _, _, rfl, RowAt.zero _ _ _, Below.refl _ _⟩
theorem refSame_self (a0 : Option Addr) (len0 cap0 : Nat) (xs : List Int) (a1 : Option Addr) (len1 cap1 : Nat) (w : World) (h0 : RowAt .i64 w a0 len0 xs) (h1 : RowAt .i64 w a1 len1 xs) :
    Calls Try.prog 26 #[.slice a0 len0 cap0, .slice a1 len1 cap1] w (Gives (.bool true) w) := by
  have := refSame_any a0 len0 cap0 xs a1 len1 cap1 xs w h0 h1
  rwa [decide_eq_true rfl] at this

set_option maxHeartbeats 4000000 in
set_option maxRecDepth 100000 in
theorem shapeForms_at (a0 : Option Addr) (len0 cap0 : Nat) (d : List Int) (a1 : Option Addr) (len1 cap1 : Nat) (e1 : List Int) (a2 : Option Addr) (len2 cap2 : Nat) (t : List Int) (a3 a4 a5 a6 a7 : Int) (w : World)
    (h0 : RowAt .i64 w a0 len0 d) (h1 : RowAt .i64 w a1 len1 e1) (h2 : RowAt .i64 w a2 len2 t) (hcap : len0 ≤ cap0) :
    Calls Try.prog 8 #[.slice a0 len0 cap0, .slice a1 len1 cap1, .slice a2 len2 cap2, .int .i64 a3, .int .i64 a4, .int .i64 a5, .int .i64 a6, .int .i64 a7] w fun e w' => e = .returned (.bool true) ∧ Below w.heap.size w w' := by
  have H0 := Lib.hid h0
  have H1 := Lib.hid h1
  have H2 := Lib.hid h2
  obtain ⟨M, hM⟩ : ∃ M, decide (0 < Sh.size d) = M := ⟨_, rfl⟩
  have M1 := Lib.hid (fun w h => hM ▸ may_any a0 len0 cap0 d w h)
  have M2 := Lib.hid (fun w h => hM ▸ refMay_any a0 len0 cap0 d w h)
  have mm : (M == M) = true := by simp
  obtain ⟨S, hS⟩ : ∃ S, Sh.size d = S := ⟨_, rfl⟩
  have S1 := Lib.hid (fun w h => hS ▸ size_any a0 len0 cap0 d w h)
  have S2 := Lib.hid (fun w h => hS ▸ refSize_any a0 len0 cap0 d w h)
  obtain ⟨E, hE⟩ : ∃ E, decide (d = e1) = E := ⟨_, rfl⟩
  have E1 := Lib.hid (fun w h h' => hE ▸ shapeSame_any a0 len0 cap0 d a1 len1 cap1 e1 w h h')
  have E2 := Lib.hid (fun w h h' => hE ▸ refSame_any a0 len0 cap0 d a1 len1 cap1 e1 w h h')
  have ee : (E == E) = true := by simp
  obtain ⟨X, hX⟩ : ∃ X, Sh.index d t = X := ⟨_, rfl⟩
  have X1 := Lib.hid (fun w h h' => hX ▸ index_any a0 len0 cap0 d a2 len2 cap2 t w h h')
  have X2 := Lib.hid (fun w h h' => hX ▸ refIndex_any a0 len0 cap0 d a2 len2 cap2 t w h h')
  obtain ⟨O, hO⟩ : ∃ O, outW a4 a5 a6 a7 = O := ⟨_, rfl⟩
  have O1 := Lib.hid (fun w => hO ▸ out_any a4 a5 a6 a7 w)
  have O2 := Lib.hid (fun w => hO ▸ refOut_any a4 a5 a6 a7 w)
  have T1 := Lib.hid (fun w h => strides_all a0 len0 cap0 d w h)
  have T2 := Lib.hid (fun w h => refStrides_all a0 len0 cap0 d w hcap h)
  have A1 := Lib.hid (fun w h => at_all a0 len0 cap0 d a3 w h)
  have A2 := Lib.hid (fun w h => refAt_all a0 len0 cap0 d a3 w hcap h)
  clear h0 h1 h2 hM hS hE hX hO hcap
  go_enter Try.func8, Try.ntmps8
  go_wp2_with fail
  refine (M1.out _ H0.out).mono ?_
  rintro e w' ⟨rfl, rfl⟩
  go_wp2_with fail
  refine (M2.out _ H0.out).mono ?_
  rintro e w' ⟨rfl, rfl⟩
  go_wp2_with fail
  refine (S1.out _ H0.out).mono ?_
  rintro e w' ⟨rfl, rfl⟩
  go_wp2_with fail
  refine (S2.out _ H0.out).mono ?_
  rintro e w' ⟨rfl, rfl⟩
  go_wp2_with fail
  refine (T1.out _ H0.out).mono ?_
  rintro e w1 ⟨g1, n1, c1, rfl, r1, b1⟩
  have K0 := Lib.hid (H0.out.below b1)
  go_wp2_with fail
  refine (T2.out _ K0.out).mono ?_
  rintro e w2 ⟨g2, n2, c2, rfl, r2, b2⟩
  have B2 := Lib.hid (b1.step b2)
  go_wp2_with fail
  refine (refSame_self _ _ _ _ _ _ _ _ (r1.below b2) r2).mono ?_
  rintro e w3 ⟨rfl, q3, h3⟩
  have B3 := Lib.hid (h3 ▸ B2.out.draws q3 : Below w.heap.size w w3)
  clear h3
  clear r1 r2 b1 b2 K0 B2
  go_wp2_with fail
  refine (E1.out _ (H0.out.below B3.out) (H1.out.below B3.out)).mono ?_
  rintro e w4 ⟨rfl, q4, h4⟩
  have B4 := Lib.hid (h4 ▸ B3.out.draws q4 : Below w.heap.size w w4)
  clear h4
  go_wp2_with fail
  refine (E2.out _ (H0.out.below B4.out) (H1.out.below B4.out)).mono ?_
  rintro e w5 ⟨rfl, q5, h5⟩
  have B5 := Lib.hid (h5 ▸ B4.out.draws q5 : Below w.heap.size w w5)
  clear h5
  clear B3 B4
  go_wp2_with fail
  refine (X1.out _ (H0.out.below B5.out) (H2.out.below B5.out)).mono ?_
  rintro e w6 ⟨rfl, hb6⟩
  have B6 := Lib.hid (B5.out.step hb6)
  clear B5 hb6
  go_wp2_with fail
  refine (X2.out _ (H0.out.below B6.out) (H2.out.below B6.out)).mono ?_
  rintro e w' ⟨rfl, rfl⟩
  go_wp2_with fail
  refine (A1.out _ (H0.out.below B6.out)).mono ?_
  rintro e w7 ⟨g1, n1, c1, rfl, r1, b1⟩
  have B7 := Lib.hid (B6.out.step b1)
  go_wp2_with fail
  refine (A2.out _ (H0.out.below B7.out)).mono ?_
  rintro e w8 ⟨g2, n2, c2, rfl, r2, b2⟩
  have B8 := Lib.hid (B7.out.step b2)
  go_wp2_with fail
  refine (refSame_self _ _ _ _ _ _ _ _ (r1.below b2) r2).mono ?_
  rintro e w9 ⟨rfl, q9, h9⟩
  have B9 := Lib.hid (h9 ▸ B8.out.draws q9 : Below w.heap.size w w9)
  clear h9
  clear r1 r2 b1 b2 B6 B7 B8
  go_wp2_with fail
  refine (O1.out _).mono ?_
  rintro e w' ⟨rfl, rfl⟩
  go_wp2_with fail
  refine (O2.out _).mono ?_
  rintro e w' ⟨rfl, rfl⟩
  go_wp2_with fail
  refine (awake7_any _).mono ?_
  rintro e w10 ⟨rfl, hb10⟩
  have B10 := Lib.hid (B9.out.step hb10)
  clear hb10 B9
  go_wp2
  go_ret
  exact ⟨rfl, B10.out⟩
theorem shapeForms_any (a0 : Option Addr) (len0 cap0 : Nat) (z0 : List Int) (a1 : Option Addr) (len1 cap1 : Nat) (z1 : List Int) (a2 : Option Addr) (len2 cap2 : Nat) (z2 : List Int) (a3 a4 a5 a6 a7 : Int) (w : World)
    (w0 : IsRow .i64 8 w a0 len0 cap0 z0) (w1 : IsRow .i64 8 w a1 len1 cap1 z1) (w2 : IsRow .i64 8 w a2 len2 cap2 z2) (w3 : (Lit.int .i64 a3).wf = true) (w4 : (Lit.int .i64 a4).wf = true) (w5 : (Lit.int .i64 a5).wf = true) (w6 : (Lit.int .i64 a6).wf = true) (w7 : (Lit.int .i64 a7).wf = true) :
    Calls Try.prog 8 #[.slice a0 len0 cap0, .slice a1 len1 cap1, .slice a2 len2 cap2, .int .i64 a3, .int .i64 a4, .int .i64 a5, .int .i64 a6, .int .i64 a7] w fun e w' => e = .returned (.bool true) ∧ Below w.heap.size w w' :=
  shapeForms_at a0 len0 cap0 _ a1 len1 cap1 _ a2 len2 cap2 _ a3 a4 a5 a6 a7 w (w0.at (by omega)) (w1.at (by omega)) (w2.at (by omega)) (w0.cap_le (by omega)).1
end Go.Proofs.Ytmebchgjofpepaa
