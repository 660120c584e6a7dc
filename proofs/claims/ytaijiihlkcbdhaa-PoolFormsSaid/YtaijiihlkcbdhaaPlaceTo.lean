/-
  The walks of a place as a complex number, and back, and of the law PlaceTo.
-/
import Derived.Test.YtaijiihlkcbdhaaKit
import Derived.Test.YtaijiihlkcbdhaaFloat
import Derived.Deep.QuietTactic
import Derived.BigQuiet
import Derived.WalkLawsBesides
import Derived.OwnWalk
namespace Go.Proofs.Ytaijiihlkcbdhaa
open Go.RowKit Fl
set_option linter.unusedVariables false

theorem placeIn_any (n lo hi : Int) (w : World) : Calls Try.prog 52 #[.int .i64 n, .int .i64 lo, .int .i64 hi] w fun e w' => e = .returned (.bool (decide (lo ≤ n ∧ n ≤ hi))) ∧ w = w' := by
  by_cases h1 : lo ≤ n
  · by_cases h2 : n ≤ hi
    · rw [decide_eq_true (And.intro h1 h2)]
      go_enter Try.func52, Try.ntmps52
      go_wp2
      go_ret
      exact ⟨rfl, rfl⟩
    · rw [decide_eq_false (fun h => h2 h.2)]
      have h3 : decide (n ≤ hi) = false := decide_eq_false h2
      go_enter Try.func52, Try.ntmps52
      go_wp2
      go_ret
      exact ⟨rfl, rfl⟩
  · rw [decide_eq_false (fun h => h1 h.1)]
    go_enter Try.func52, Try.ntmps52
    go_wp2
    go_ret
    exact ⟨rfl, rfl⟩
theorem placeIn_yes (n lo hi : Int) (w : World) (h1 : lo ≤ n) (h2 : n ≤ hi) : Calls Try.prog 52 #[.int .i64 n, .int .i64 lo, .int .i64 hi] w fun e w' => e = .returned (.bool true) ∧ w = w' := by
  have := placeIn_any n lo hi w; rwa [decide_eq_true (And.intro h1 h2)] at this
theorem placeIn_no (n lo hi : Int) (w : World) (h : n < lo ∨ hi < n) : Calls Try.prog 52 #[.int .i64 n, .int .i64 lo, .int .i64 hi] w fun e w' => e = .returned (.bool false) ∧ w = w' := by
  have := placeIn_any n lo hi w; rwa [decide_eq_false (fun g => by omega)] at this

/-- What Of gives. -/
def ofOk (r c : Int) : Prop := -1000 ≤ r ∧ r ≤ 1000 ∧ -1000 ≤ c ∧ c ≤ 1000
instance (r c : Int) : Decidable (ofOk r c) := by unfold ofOk; infer_instance
def ofRe (r c : Int) : Nat := if ofOk r c then floatOfInt .f64 r else 0
def ofIm (r c : Int) : Nat := if ofOk r c then floatOfInt .f64 c else 0
theorem of_yes (r c : Int) (w : World) (h : ofOk r c) : Calls Try.prog 54 #[.int .i64 r, .int .i64 c] w fun e w' => e = .returned (.complex .f64 (floatOfInt .f64 r) (floatOfInt .f64 c)) ∧ w = w' := by
  obtain ⟨h1, h2, h3, h4⟩ := h
  go_enter Try.func54, Try.ntmps54
  go_wp2_with (go_at_call 52; go_call placeIn_yes as e w' ⟨rfl, rfl⟩)
  go_ret
  exact ⟨rfl, rfl⟩
theorem of_no (r c : Int) (w : World) (h : ¬ ofOk r c) : Calls Try.prog 54 #[.int .i64 r, .int .i64 c] w fun e w' => e = .returned (.complex .f64 0 0) ∧ w = w' := by
  have cs : (r < -1000 ∨ 1000 < r) ∨ (-1000 ≤ r ∧ r ≤ 1000 ∧ (c < -1000 ∨ 1000 < c)) := by unfold ofOk at h; omega
  clear h
  rcases cs with h | ⟨h1, h2, h⟩
  all_goals
    have H := Lib.hid h
    clear h
    have H2 := H.out
    go_enter Try.func54, Try.ntmps54
    go_wp2_with (go_at_call 52; first | go_call placeIn_yes as e w' ⟨rfl, rfl⟩ | go_call placeIn_no as e w' ⟨rfl, rfl⟩)
    go_ret
    exact ⟨rfl, rfl⟩
theorem of_any (r c : Int) (w : World) : Calls Try.prog 54 #[.int .i64 r, .int .i64 c] w fun e w' => e = .returned (.complex .f64 (ofRe r c) (ofIm r c)) ∧ w = w' := by
  unfold ofRe ofIm
  by_cases h : ofOk r c
  · rw [if_pos h, if_pos h]; exact of_yes r c w h
  · rw [if_neg h, if_neg h]; exact of_no r c w h
/-- A complex number of whole parts. -/
def GivesC (x y : Int) (w : World) : Ending → World → Prop := fun e w' => ∃ a b, e = .returned (.complex .f64 a b) ∧ FI a x ∧ FI b y ∧ w = w'
theorem of_ok (r c : Int) (w : World) (h : ofOk r c) : Calls Try.prog 54 #[.int .i64 r, .int .i64 c] w (GivesC r c w) := by
  refine (of_yes r c w h).mono ?_
  rintro e w' ⟨rfl, rfl⟩
  obtain ⟨h1, h2, h3, h4⟩ := h
  exact ⟨_, _, rfl, FI.ofInt r (by omega), FI.ofInt c (by omega), rfl⟩

theorem whole_any (b : Nat) (w : World) : Calls Try.prog 56 #[.float .f64 b] w fun e w' => e = .returned (.tuple #[.int .i64 (wholeN b), .bool (wholeB b)]) ∧ w = w' := by
  unfold wholeN wholeB
  by_cases h1 : ge b = true
  · by_cases h2 : le b = true
    · obtain ⟨h3, h4, h5⟩ := cut_some h1 h2
      rw [if_pos ⟨h1, h2⟩, h1, h2]
      have hc : ∀ w, (convert 84 3 (.float .f64 b)).run Try.prog w = .ok (.int .i64 (cut b)) w := fun w => run_convert_float_int w 84 3 .f64 .i64 b (cut b) (by rw [Try.underlying84]; rfl) Try.underlying3 h3
      have hw : (FloatKind.f64.format.order (floatOfInt .f64 (cut b)) b == some .eq) = whole b := rfl
      generalize whole b = B at *
      generalize cut b = n at *
      unfold ge at h1
      unfold le at h2
      go_enter Try.func56, Try.ntmps56
      go_wp2_with (simp only [hc])
      go_ret2
      exact ⟨rfl, rfl⟩
    · rw [if_neg (fun h => h2 h.2), eq_false_of_ne_true h2]
      have h3 := eq_false_of_ne_true h2
      unfold ge at h1
      unfold le at h3
      go_enter Try.func56, Try.ntmps56
      go_wp2
      go_ret2
      exact ⟨by simp, rfl⟩
  · rw [if_neg (fun h => h1 h.1), eq_false_of_ne_true h1]
    have h3 := eq_false_of_ne_true h1
    unfold ge at h3
    go_enter Try.func56, Try.ntmps56
    go_wp2
    go_ret2
    exact ⟨rfl, rfl⟩
def toOk (a b : Nat) : Bool := wholeB a && wholeB b
theorem to_any (a b : Nat) (w : World) : Calls Try.prog 55 #[.complex .f64 a b] w fun e w' => e = .returned (.tuple #[.int .i64 (if toOk a b = true then wholeN a else 0), .int .i64 (if toOk a b = true then wholeN b else 0), .bool (toOk a b)]) ∧ w = w' := by
  have H1 := Lib.hid (fun w => whole_any a w)
  have H2 := Lib.hid (fun w => whole_any b w)
  unfold toOk
  generalize wholeN a = x at *
  generalize wholeN b = y at *
  generalize wholeB a = s at *
  generalize wholeB b = t at *
  cases s <;> cases t
  all_goals
    go_enter Try.func55, Try.ntmps55
    go_wp2_with fail
    refine (H1.out _).mono ?_
    rintro e w' ⟨rfl, rfl⟩
    go_wp2_with fail
    refine (H2.out _).mono ?_
    rintro e w' ⟨rfl, rfl⟩
    go_wp2
    go_ret3
    exact ⟨rfl, rfl⟩
theorem to_small (a b : Nat) (x y : Int) (w : World) (ha : FI a x) (hb : FI b y) (x1 : -1000 ≤ x) (x2 : x ≤ 1000) (y1 : -1000 ≤ y) (y2 : y ≤ 1000) :
    Calls Try.prog 55 #[.complex .f64 a b] w fun e w' => e = .returned (.tuple #[.int .i64 x, .int .i64 y, .bool true]) ∧ w = w' := by
  have h := to_any a b w
  unfold toOk at h
  rw [(ha.small x1 x2).1, (ha.small x1 x2).2, (hb.small y1 y2).1, (hb.small y1 y2).2] at h
  exact h
/-- A window's corner, where nothing is too great. -/
theorem corner_arith (r c s p : Int) (w : World) {a b d e f g : Nat} (ha : FI a s) (hb : FI b 0) (hd : FI d r) (he : FI e c) (hf : FI f p) (hg : FI g p) (s1 : s.natAbs ≤ 100) (r1 : r.natAbs ≤ 100) (c1 : c.natAbs ≤ 100) (p1 : p.natAbs ≤ 100) :
    ∃ m1 m2 q1 q2, cMulBits a b d e = some (m1, m2) ∧ cSumBits .sub .f64 m1 m2 f g = some (q1, q2) ∧ FI q1 (r * s - p) ∧ FI q2 (c * s - p) := by
  have bd : ∀ u v : Int, u.natAbs ≤ 100 → v.natAbs ≤ 100 → (u * v).natAbs ≤ 10000 := fun u v hu hv => by
    rw [Int.natAbs_mul]; exact Nat.mul_le_mul hu hv
  have b1 := bd r s r1 s1
  have b2 := bd c s c1 s1
  obtain ⟨m1, m2, e1, f1, f2⟩ := FI.cmul ha hb hd he (by omega) (by decide) (by omega) (by omega)
  rw [Int.zero_mul, Int.sub_zero, Int.mul_comm] at f1
  rw [Int.zero_mul, Int.add_zero, Int.mul_comm] at f2
  obtain ⟨q1, q2, e2, g1, g2⟩ := FI.csub f1 f2 hf hg (by omega) (by omega)
  exact ⟨m1, m2, q1, q2, e1, e2, g1, g2⟩
def cornerOk (r c s p : Int) : Prop := 0 ≤ r ∧ r ≤ 16 ∧ 0 ≤ c ∧ c ≤ 16 ∧ 1 ≤ s ∧ s ≤ 4 ∧ 0 ≤ p ∧ p ≤ 5
instance (r c s p : Int) : Decidable (cornerOk r c s p) := by unfold cornerOk; infer_instance
end Go.Proofs.Ytaijiihlkcbdhaa
