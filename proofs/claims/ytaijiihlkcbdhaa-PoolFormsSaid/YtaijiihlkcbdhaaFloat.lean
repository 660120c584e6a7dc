/-
  Floats that stand for whole numbers: sums, products, comparisons, conversions of them are exact.
-/
import Derived.Laws.ComplexArith
namespace Go.Proofs.Ytaijiihlkcbdhaa
open Ieee
set_option linter.unusedVariables false
namespace Fl

def sg (s : Bool) (m : Nat) : Int := if s then -(m : Int) else m
/-- A datum that stands for a whole number. -/
def DI (d : Datum) (n : Int) : Prop := ∃ (s : Bool) (m p : Nat), d = .number s m (-(p : Int)) ∧ sg s m = n * 2 ^ p
/-- Bits that do. -/
def FI (b : Nat) (n : Int) : Prop := DI (double.read b) n

theorem signed_sg (s : Bool) (m k : Nat) : signed s m k = sg s m * 2 ^ k := by
  unfold signed sg
  rw [Nat.shiftLeft_eq]
  cases s <;> simp [Int.neg_mul]
theorem sg_not (s : Bool) (m : Nat) : sg (!s) m = -sg s m := by cases s <;> simp [sg]
theorem sg_natAbs (s : Bool) (m : Nat) : (sg s m).natAbs = m := by cases s <;> simp [sg]
theorem sg_xor (s t : Bool) (m n : Nat) : sg (s ^^ t) (m * n) = sg s m * sg t n := by cases s <;> cases t <;> simp [sg, Int.neg_mul, Int.mul_neg]
theorem sg_total (z : Bool) (t : Int) : sg (if t = 0 then z else t < 0) t.natAbs = t := by
  by_cases h : t = 0
  · subst h; cases z <;> simp [sg]
  · rw [if_neg h]
    by_cases g : t < 0
    · simp [sg, g]; omega
    · simp [sg, g]; omega
theorem pow_split (n : Int) {p M : Nat} (h : p ≤ M) : n * 2 ^ p * 2 ^ (M - p) = n * 2 ^ M := by
  rw [Int.mul_assoc, ← Int.pow_add, Nat.add_sub_cancel' h]
theorem min_neg (p q : Nat) : min (-(p : Int)) (-(q : Int)) = -((max p q : Nat) : Int) := by omega

theorem DI.sum {a b : Datum} {n m : Int} (h : DI a n) (k : DI b m) : ∃ d, a.sum b = some d ∧ DI d (n + m) := by
  obtain ⟨s, x, p, rfl, hx⟩ := h
  obtain ⟨t, y, q, rfl, hy⟩ := k
  refine ⟨_, rfl, _, _, max p q, by rw [min_neg], ?_⟩
  rw [sg_total, signed_sg, signed_sg, hx, hy, Int.add_mul]
  rw [show (-(p : Int) - -((max p q : Nat) : Int)).toNat = max p q - p by omega, show (-(q : Int) - -((max p q : Nat) : Int)).toNat = max p q - q by omega,
    pow_split n (Nat.le_max_left p q), pow_split m (Nat.le_max_right p q)]
theorem DI.opposite {a : Datum} {n : Int} (h : DI a n) : DI a.opposite (-n) := by
  obtain ⟨s, x, p, rfl, hx⟩ := h
  exact ⟨!s, x, p, rfl, by rw [sg_not, hx, Int.neg_mul]⟩
theorem DI.product {a b : Datum} {n m : Int} (h : DI a n) (k : DI b m) : ∃ d, a.product b = some d ∧ DI d (n * m) := by
  obtain ⟨s, x, p, rfl, hx⟩ := h
  obtain ⟨t, y, q, rfl, hy⟩ := k
  refine ⟨_, rfl, s ^^ t, x * y, p + q, by rw [show (-(p : Int) + -(q : Int)) = -((p + q : Nat) : Int) by omega], ?_⟩
  rw [sg_xor, hx, hy, Int.pow_add]
  simp only [Int.mul_assoc, Int.mul_left_comm]
theorem cmp_scale (n m : Int) (k : Nat) : compare (n * 2 ^ k) (m * 2 ^ k) = compare n m := by
  have hp : (0 : Int) < 2 ^ k := Int.pow_pos (by omega)
  simp only [compare, compareOfLessAndEq]
  have h1 : (n * 2 ^ k < m * 2 ^ k) = (n < m) := propext (Int.mul_lt_mul_right hp)
  have h2 : (n * 2 ^ k = m * 2 ^ k) = (n = m) := propext (Int.mul_eq_mul_right_iff (by omega))
  simp only [h1, h2]
theorem DI.order {a b : Datum} {n m : Int} (h : DI a n) (k : DI b m) : a.order b = some (compare n m) := by
  obtain ⟨s, x, p, rfl, hx⟩ := h
  obtain ⟨t, y, q, rfl, hy⟩ := k
  unfold Datum.order
  dsimp only
  rw [min_neg, signed_sg, signed_sg, hx, hy,
    show (-(p : Int) - -((max p q : Nat) : Int)).toNat = max p q - p by omega, show (-(q : Int) - -((max p q : Nat) : Int)).toNat = max p q - q by omega,
    pow_split n (Nat.le_max_left p q), pow_split m (Nat.le_max_right p q), cmp_scale]

theorem log2_shift {n : Nat} (h : n ≠ 0) (p : Nat) : (n * 2 ^ p).log2 = n.log2 + p := by
  have hp : 0 < 2 ^ p := Nat.two_pow_pos p
  have h2 : n * 2 ^ p ≠ 0 := by
    have := Nat.mul_pos (Nat.pos_of_ne_zero h) hp
    omega
  rw [Nat.log2_eq_iff h2]
  obtain ⟨h3, h4⟩ := (Nat.log2_eq_iff h).1 rfl
  constructor
  · rw [Nat.pow_add]; exact Nat.mul_le_mul_right _ h3
  · rw [show n.log2 + p + 1 = n.log2 + 1 + p by omega, Nat.pow_add]; exact Nat.mul_lt_mul_of_pos_right h4 hp
theorem DI.mag {s : Bool} {m p : Nat} {n : Int} (h : sg s m = n * 2 ^ p) : m = n.natAbs * 2 ^ p := by
  have := congrArg Int.natAbs h
  rwa [sg_natAbs, Int.natAbs_mul, Int.natAbs_pow] at this
/-- Cut where nothing is left over. -/
theorem cut_exact (way : Toward) (s : Bool) (K drop : Nat) (h : K ≠ 0) : way.cut s (K * 2 ^ drop) drop = K := by
  have hp : 0 < 2 ^ drop := Nat.two_pow_pos drop
  unfold Toward.cut
  rw [log2_shift h, Nat.min_eq_left (by omega), Nat.one_shiftLeft]
  dsimp only
  rw [Nat.mul_mod_left, Nat.mul_div_cancel _ hp]
  cases way <;> simp <;> omega
theorem cut_zero (way : Toward) (s : Bool) (drop : Nat) : way.cut s 0 drop = 0 := by
  unfold Toward.cut
  rw [Nat.one_shiftLeft]
  have hp : 0 < 2 ^ min drop (Nat.log2 0 + 2) := Nat.two_pow_pos _
  cases way <;> simp
theorem DI.toInt {d : Datum} {n : Int} (h : DI d n) : d.toInt .zero = some n := by
  obtain ⟨s, m, p, rfl, hx⟩ := h
  unfold Datum.toInt Datum.integral
  dsimp only
  rw [show (-(p : Int)).toNat = 0 by omega, show (- -(p : Int)).toNat = p by omega, Nat.shiftLeft_zero, DI.mag hx, signed_sg, Int.pow_zero, Int.mul_one]
  by_cases hn : n = 0
  · subst hn
    simp [cut_zero, sg]
  · rw [cut_exact _ _ _ _ (by omega)]
    have hp : (0 : Int) < 2 ^ p := Int.pow_pos (by omega)
    cases s
    · simp only [sg, Bool.false_eq_true, if_false] at hx ⊢
      have : 0 ≤ n := by
        apply Int.not_lt.1
        intro hl
        have := Int.mul_neg_of_neg_of_pos hl hp
        omega
      congr 1; omega
    · simp only [sg, if_true] at hx ⊢
      have : n ≤ 0 := by
        apply Int.not_lt.1
        intro hl
        have := Int.mul_pos hl hp
        omega
      congr 1; omega

theorem read_word (s : Bool) (rung : Nat) (h1 : 4503599627370496 ≤ rung) (h2 : rung < 9218868437227405312) :
    double.read (double.word s rung) = .number s (4503599627370496 + rung % 4503599627370496) (-1074 + (rung / 4503599627370496 - 1 : Nat)) := by
  have e1 : double.signWeight = 9223372036854775808 := by decide
  have e2 : double.binade = 4503599627370496 := by decide
  have e3 : double.infRung = 9218868437227405312 := by decide
  have e4 : double.leastPlace = -1074 := by decide
  unfold Format.read Format.word
  simp only [e1, e2, e3, e4]
  cases s
  · simp only [Bool.false_eq_true, if_false]
    rw [Nat.mod_eq_of_lt (show rung < 9223372036854775808 by omega), if_neg (by omega), if_pos h2, Nat.div_eq_of_lt (show rung < 9223372036854775808 by omega)]
    rfl
  · simp only [if_true]
    rw [Nat.add_mod_left, Nat.mod_eq_of_lt (show rung < 9223372036854775808 by omega), if_neg (by omega), if_pos h2,
      show (9223372036854775808 + rung) / 9223372036854775808 = 1 by omega]
    rfl
theorem read_word0 (s : Bool) : double.read (double.word s 0) = .number s 0 (-1074) := by cases s <;> decide
theorem nearest_exact (s : Bool) (m p : Nat) (n : Int) (hx : sg s m = n * 2 ^ p) (hn : n.natAbs < 2 ^ 53) : DI (double.read (double.nearest s m (-(p : Int)))) n := by
  have hm := DI.mag hx
  have hp : (0 : Int) < 2 ^ p := Int.pow_pos (by omega)
  unfold Format.nearest
  by_cases h0 : n = 0
  · subst h0
    have : m = 0 := by simpa using hm
    subst this
    rw [if_pos rfl, read_word0]
    exact ⟨s, 0, 1074, rfl, by rw [Int.zero_mul]; cases s <;> rfl⟩
  have h1 : n.natAbs ≠ 0 := by omega
  have hmp : m ≠ 0 := by
    intro e
    rw [e] at hm
    have := Nat.mul_pos (Nat.pos_of_ne_zero h1) (Nat.two_pow_pos p)
    omega
  rw [if_neg hmp]
  have hlog : m.log2 = n.natAbs.log2 + p := by rw [hm, log2_shift h1]
  obtain ⟨l1, l2⟩ := (Nat.log2_eq_iff h1).1 rfl
  generalize hL : n.natAbs.log2 = L at *
  have hL52 : L ≤ 52 := by
    have : 2 ^ L < 2 ^ 53 := Nat.lt_of_le_of_lt l1 hn
    have := (Nat.pow_lt_pow_iff_right (by omega : 1 < 2)).1 this
    omega
  have e0 : (double.fractionBits : Int) = 52 := rfl
  have e2 : double.binade = 4503599627370496 := by decide
  have e3 : double.infRung = 9218868437227405312 := by decide
  have e4 : double.leastPlace = -1074 := by decide
  have hlast : max (-(p : Int) + (m.log2 : Nat) - double.fractionBits) double.leastPlace = (L : Int) - 52 := by
    rw [hlog, e0, e4]; omega
  dsimp only
  rw [hlast, e2, e3, e4]
  have hkept : Toward.even.cut s (m <<< (-(p : Int) - ((L : Int) - 52)).toNat) ((L : Int) - 52 - -(p : Int)).toNat = n.natAbs * 2 ^ (52 - L) := by
    by_cases hc : p ≤ 52 - L
    · rw [show ((L : Int) - 52 - -(p : Int)).toNat = 0 by omega, show (-(p : Int) - ((L : Int) - 52)).toNat = 52 - L - p by omega, Nat.shiftLeft_eq, hm, Nat.mul_assoc, ← Nat.pow_add, show p + (52 - L - p) = 52 - L by omega]
      have := cut_exact .even s (n.natAbs * 2 ^ (52 - L)) 0 (by have := Nat.mul_pos (Nat.pos_of_ne_zero h1) (Nat.two_pow_pos (52 - L)); omega)
      simpa using this
    · rw [show (-(p : Int) - ((L : Int) - 52)).toNat = 0 by omega, Nat.shiftLeft_zero, show ((L : Int) - 52 - -(p : Int)).toNat = p - (52 - L) by omega, hm]
      rw [show n.natAbs * 2 ^ p = n.natAbs * 2 ^ (52 - L) * 2 ^ (p - (52 - L)) by rw [Nat.mul_assoc, ← Nat.pow_add, show 52 - L + (p - (52 - L)) = p by omega]]
      exact cut_exact .even s _ _ (by have := Nat.mul_pos (Nat.pos_of_ne_zero h1) (Nat.two_pow_pos (52 - L)); omega)
  rw [hkept]
  have k1 : 4503599627370496 ≤ n.natAbs * 2 ^ (52 - L) := by
    have := Nat.mul_le_mul_right (2 ^ (52 - L)) l1
    rw [← Nat.pow_add, show L + (52 - L) = 52 by omega] at this
    exact this
  have k2 : n.natAbs * 2 ^ (52 - L) < 9007199254740992 := by
    have := Nat.mul_lt_mul_of_pos_right l2 (Nat.two_pow_pos (52 - L))
    rw [← Nat.pow_add, show L + 1 + (52 - L) = 53 by omega] at this
    exact this
  generalize hK : n.natAbs * 2 ^ (52 - L) = K at *
  rw [show ((L : Int) - 52 - -1074).toNat = L + 1022 by omega, Nat.min_eq_left (by omega), read_word s _ (by omega) (by omega)]
  refine ⟨s, K, 52 - L, ?_, ?_⟩
  · rw [show 4503599627370496 + ((L + 1022) * 4503599627370496 + K) % 4503599627370496 = K by omega,
      show ((L + 1022) * 4503599627370496 + K) / 4503599627370496 - 1 = L + 1022 by omega]
    simp only [Datum.number.injEq, true_and]
    omega
  · have hs : (sg s m).sign = n.sign := by
      rw [hx, Int.sign_mul, Int.sign_eq_one_of_pos hp, Int.mul_one]
    have q : (0 : Int) < 2 ^ (52 - L) := Int.pow_pos (by omega)
    cases s
    · have hpos : 0 < n := by
        apply Int.sign_eq_one_iff_pos.1
        rw [← hs]
        simp only [sg, Bool.false_eq_true, if_false]
        exact Int.sign_eq_one_of_pos (by omega)
      simp only [sg, Bool.false_eq_true, if_false]
      rw [← hK, Int.natCast_mul, Int.natCast_pow, Int.natAbs_of_nonneg (by omega)]
      rfl
    · have hneg : n < 0 := by
        apply Int.sign_eq_neg_one_iff_neg.1
        rw [← hs]
        simp only [sg, if_true]
        exact Int.sign_eq_neg_one_of_neg (by omega)
      simp only [sg, if_true]
      rw [← hK, Int.natCast_mul, Int.natCast_pow, show (n.natAbs : Int) = -n by omega, Int.neg_mul, Int.neg_neg]
      rfl
theorem DI.write {d : Datum} {n : Int} (h : DI d n) (hn : n.natAbs < 2 ^ 53) : FI (double.write d) n := by
  obtain ⟨s, m, p, rfl, hx⟩ := h
  exact nearest_exact s m p n hx hn

theorem FI.ofInt (n : Int) (hn : n.natAbs < 2 ^ 53) : FI (floatOfInt .f64 n) n := by
  refine DI.write (d := .number (n < 0) n.natAbs 0) ⟨n < 0, n.natAbs, 0, rfl, ?_⟩ hn
  have := sg_total false n
  by_cases h : n = 0
  · subst h; rfl
  · rw [if_neg h] at this; simpa using this
theorem FI.add {a b : Nat} {n m : Int} (h : FI a n) (k : FI b m) (hn : (n + m).natAbs < 2 ^ 53) : ∃ r, floatBits .add .f64 a b = some r ∧ FI r (n + m) := by
  obtain ⟨d, e, hd⟩ := DI.sum h k
  refine ⟨double.write d, ?_, hd.write hn⟩
  show double.add a b = _
  unfold Format.add
  rw [e]; rfl
theorem FI.sub {a b : Nat} {n m : Int} (h : FI a n) (k : FI b m) (hn : (n - m).natAbs < 2 ^ 53) : ∃ r, floatBits .sub .f64 a b = some r ∧ FI r (n - m) := by
  obtain ⟨d, e, hd⟩ := DI.sum h (DI.opposite k)
  refine ⟨double.write d, ?_, DI.write (by rw [Int.sub_eq_add_neg]; exact hd) hn⟩
  show double.sub a b = _
  unfold Format.sub
  rw [e]; rfl
theorem FI.mul {a b : Nat} {n m : Int} (h : FI a n) (k : FI b m) (hn : (n * m).natAbs < 2 ^ 53) : ∃ r, floatBits .mul .f64 a b = some r ∧ FI r (n * m) := by
  obtain ⟨d, e, hd⟩ := DI.product h k
  refine ⟨double.write d, ?_, hd.write hn⟩
  show double.mul a b = _
  unfold Format.mul
  rw [e]; rfl
theorem FI.order {a b : Nat} {n m : Int} (h : FI a n) (k : FI b m) : FloatKind.f64.format.order a b = some (compare n m) := DI.order h k
theorem FI.toInt {a : Nat} {n : Int} (h : FI a n) (h0 : IntKind.i64.min ≤ n) (h1 : n ≤ IntKind.i64.max) : floatToIntVal .f64 a .i64 = some n := by
  unfold floatToIntVal
  rw [show (FloatKind.f64.decode a).toInt .zero = some n from DI.toInt h]
  exact if_pos ⟨h0, h1⟩
theorem FI.zero : FI 0 0 := ⟨false, 0, 1074, by decide, by rw [Int.zero_mul]; rfl⟩

theorem FI.cmul {a b c d : Nat} {n m x y : Int} (ha : FI a n) (hb : FI b m) (hc : FI c x) (hd : FI d y) (l1 : n.natAbs ≤ 100000) (l2 : m.natAbs ≤ 100000) (l3 : x.natAbs ≤ 100000) (l4 : y.natAbs ≤ 100000) :
    ∃ re im, cMulBits a b c d = some (re, im) ∧ FI re (n * x - m * y) ∧ FI im (n * y + m * x) := by
  have bd : ∀ u v : Int, u.natAbs ≤ 100000 → v.natAbs ≤ 100000 → (u * v).natAbs ≤ 10000000000 := fun u v hu hv => by
    rw [Int.natAbs_mul]; exact Nat.mul_le_mul hu hv
  have b1 := bd n x l1 l3
  have b2 := bd m y l2 l4
  have b3 := bd n y l1 l4
  have b4 := bd m x l2 l3
  obtain ⟨r1, e1, f1⟩ := FI.mul ha hc (by omega)
  obtain ⟨r2, e2, f2⟩ := FI.mul hb hd (by omega)
  obtain ⟨r3, e3, f3⟩ := FI.sub f1 f2 (by omega)
  obtain ⟨r4, e4, f4⟩ := FI.mul ha hd (by omega)
  obtain ⟨r5, e5, f5⟩ := FI.mul hb hc (by omega)
  obtain ⟨r6, e6, f6⟩ := FI.add f4 f5 (by omega)
  exact ⟨r3, r6, by simp [cMulBits, e1, e2, e3, e4, e5, e6], f3, f6⟩
theorem FI.csum {a b c d : Nat} {n m x y : Int} (ha : FI a n) (hb : FI b m) (hc : FI c x) (hd : FI d y) (l1 : (n + x).natAbs < 2 ^ 53) (l2 : (m + y).natAbs < 2 ^ 53) :
    ∃ re im, cSumBits .add .f64 a b c d = some (re, im) ∧ FI re (n + x) ∧ FI im (m + y) := by
  obtain ⟨r1, e1, f1⟩ := FI.add ha hc l1
  obtain ⟨r2, e2, f2⟩ := FI.add hb hd l2
  exact ⟨r1, r2, by simp [cSumBits, e1, e2], f1, f2⟩
theorem FI.csub {a b c d : Nat} {n m x y : Int} (ha : FI a n) (hb : FI b m) (hc : FI c x) (hd : FI d y) (l1 : (n - x).natAbs < 2 ^ 53) (l2 : (m - y).natAbs < 2 ^ 53) :
    ∃ re im, cSumBits .sub .f64 a b c d = some (re, im) ∧ FI re (n - x) ∧ FI im (m - y) := by
  obtain ⟨r1, e1, f1⟩ := FI.sub ha hc l1
  obtain ⟨r2, e2, f2⟩ := FI.sub hb hd l2
  exact ⟨r1, r2, by simp [cSumBits, e1, e2], f1, f2⟩

/-! ### any float, between two whole numbers -/
theorem order_symm (a b : Datum) : (a.order b == some .eq) = (b.order a == some .eq) := by
  have sw : ∀ x y : Int, (some (compare x y) == some Ordering.eq) = (some (compare y x) == some Ordering.eq) := fun x y => by
    have h1 : compare x y = .eq ↔ x = y := Int.compare_eq_eq
    have h2 : compare y x = .eq ↔ y = x := Int.compare_eq_eq
    rw [Bool.eq_iff_iff]
    simp only [beq_iff_eq, Option.some.injEq, h1, h2]
    exact eq_comm
  cases a <;> cases b <;> try rfl
  · rename_i s m i t n j
    unfold Datum.order
    dsimp only
    rw [Int.min_comm j i]
    exact sw _ _
  · rename_i s m i t; cases t <;> rfl
  · rename_i s t n j; cases s <;> rfl
  · rename_i s t; cases s <;> cases t <;> rfl
theorem format_order_symm (a b : Nat) : (FloatKind.f64.format.order a b == some .eq) = (FloatKind.f64.format.order b a == some .eq) := order_symm _ _
/-- What is cut is not greater. -/
theorem cut_le (s : Bool) (m p B : Nat) (h : m ≤ B * 2 ^ p) : Toward.zero.cut s m p ≤ B := by
  unfold Toward.cut
  rw [Nat.one_shiftLeft]
  dsimp only
  show m / 2 ^ min p (m.log2 + 2) + 0 ≤ B
  rw [Nat.add_zero]
  by_cases c : p ≤ m.log2 + 2
  · rw [Nat.min_eq_left c]
    exact Nat.div_le_of_le_mul (by rw [Nat.mul_comm]; exact h)
  · rw [Nat.min_eq_right (by omega)]
    have : m < 2 ^ (m.log2 + 2) := Nat.lt_of_lt_of_le Nat.lt_log2_self (Nat.pow_le_pow_right (by omega) (by omega))
    rw [Nat.div_eq_of_lt this]; omega
theorem sg_bound {s : Bool} {m B : Nat} (h1 : -(B : Int) ≤ sg s m) (h2 : sg s m ≤ B) : m ≤ B := by
  cases s <;> simp [sg] at h1 h2 <;> omega
theorem scale_le {a b : Int} {k : Nat} (h : a * 2 ^ k ≤ b * 2 ^ k) : a ≤ b := Int.le_of_mul_le_mul_right h (Int.pow_pos (by omega))
theorem between {d lo hi : Datum} {B : Nat} (hlo : DI lo (-(B : Int))) (hhi : DI hi B) (h1 : (d.order lo == some .gt || d.order lo == some .eq) = true) (h2 : (d.order hi == some .lt || d.order hi == some .eq) = true) :
    ∃ n : Int, d.toInt .zero = some n ∧ -(B : Int) ≤ n ∧ n ≤ B := by
  obtain ⟨s1, m1, p1, rfl, e1⟩ := hlo
  obtain ⟨s2, m2, p2, rfl, e2⟩ := hhi
  cases d with
  | nan s f => cases h1
  | infinity s => cases s
                  · cases h2
                  · cases h1
  | number s m e =>
    have g1 : ∀ {x y : Int}, (some (compare x y) == some Ordering.gt || some (compare x y) == some Ordering.eq) = true → y ≤ x := fun {x y} h => by
      rcases Int.lt_trichotomy x y with c | c | c
      · rw [Int.compare_eq_lt.2 c] at h; cases h
      · omega
      · omega
    have g2 : ∀ {x y : Int}, (some (compare x y) == some Ordering.lt || some (compare x y) == some Ordering.eq) = true → x ≤ y := fun {x y} h => by
      rcases Int.lt_trichotomy x y with c | c | c
      · omega
      · omega
      · rw [Int.compare_eq_gt.2 c] at h; cases h
    have h1' := g1 h1
    have h2' := g2 h2
    rw [signed_sg, signed_sg, e1] at h1'
    rw [signed_sg, signed_sg, e2] at h2'
    have key : ∃ k : Nat, (Datum.number s m e).toInt .zero = some (sg s k) ∧ k ≤ B := by
      refine ⟨Toward.zero.cut s (m <<< e.toNat) (-e).toNat, ?_, ?_⟩
      · unfold Datum.toInt Datum.integral
        dsimp only
        rw [signed_sg, Int.pow_zero, Int.mul_one]
      · by_cases c : 0 ≤ e
        · obtain ⟨E, rfl⟩ := Int.eq_ofNat_of_zero_le c
          rw [show (-(E : Int)).toNat = 0 by omega, Int.toNat_natCast, Nat.shiftLeft_eq]
          apply cut_le
          rw [Nat.pow_zero, Nat.mul_one]
          rw [show ((E : Int) - min (E : Int) (-(p1 : Int))).toNat = E + p1 by omega, show (-(p1 : Int) - min (E : Int) (-(p1 : Int))).toNat = 0 by omega, Int.pow_zero, Int.mul_one, Int.pow_add, ← Int.mul_assoc] at h1'
          rw [show ((E : Int) - min (E : Int) (-(p2 : Int))).toNat = E + p2 by omega, show (-(p2 : Int) - min (E : Int) (-(p2 : Int))).toNat = 0 by omega, Int.pow_zero, Int.mul_one, Int.pow_add, ← Int.mul_assoc] at h2'
          have a1 := scale_le h1'
          have a2 := scale_le h2'
          rw [show sg s m * 2 ^ E = sg s (m * 2 ^ E) by cases s <;> simp [sg, Int.neg_mul]] at a1 a2
          exact sg_bound a1 a2
        · obtain ⟨p, rfl⟩ : ∃ p : Nat, e = -(p : Int) := ⟨(-e).toNat, by omega⟩
          rw [show (- -(p : Int)).toNat = p by omega, show (-(p : Int)).toNat = 0 by omega, Nat.shiftLeft_zero]
          apply cut_le
          rw [min_neg, show (-(p : Int) - -((max p p1 : Nat) : Int)).toNat = max p p1 - p by omega, show (-(p1 : Int) - -((max p p1 : Nat) : Int)).toNat = max p p1 - p1 by omega, pow_split _ (Nat.le_max_right p p1),
            ← pow_split (-(B : Int)) (Nat.le_max_left p p1)] at h1'
          rw [min_neg, show (-(p : Int) - -((max p p2 : Nat) : Int)).toNat = max p p2 - p by omega, show (-(p2 : Int) - -((max p p2 : Nat) : Int)).toNat = max p p2 - p2 by omega, pow_split _ (Nat.le_max_right p p2),
            ← pow_split (B : Int) (Nat.le_max_left p p2)] at h2'
          have a1 := scale_le h1'
          have a2 := scale_le h2'
          rw [Int.neg_mul] at a1
          exact sg_bound (B := B * 2 ^ p) (by rw [Int.natCast_mul, Int.natCast_pow]; exact a1) (by rw [Int.natCast_mul, Int.natCast_pow]; exact a2)
    obtain ⟨k, hk, hB⟩ := key
    exact ⟨_, hk, by cases s <;> simp [sg] <;> omega, by cases s <;> simp [sg] <;> omega⟩
theorem fiPlus : FI 4652007308841189376 1000 := by
  have := FI.ofInt 1000 (by decide)
  rwa [show floatOfInt .f64 1000 = 4652007308841189376 by decide] at this
theorem fiMinus : FI 13875379345695965184 (-1000) := by
  have := FI.ofInt (-1000) (by decide)
  rwa [show floatOfInt .f64 (-1000) = 13875379345695965184 by decide] at this
/-- Is a float from minus a thousand to a thousand? -/
def ge (b : Nat) : Bool := FloatKind.f64.format.order b 13875379345695965184 == some .gt || FloatKind.f64.format.order b 13875379345695965184 == some .eq
def le (b : Nat) : Bool := FloatKind.f64.format.order b 4652007308841189376 == some .lt || FloatKind.f64.format.order b 4652007308841189376 == some .eq
/-- What a float is, cut. -/
def cut (b : Nat) : Int := ((FloatKind.f64.decode b).toInt .zero).getD 0
theorem cut_some {b : Nat} (h1 : ge b = true) (h2 : le b = true) : floatToIntVal .f64 b .i64 = some (cut b) ∧ -1000 ≤ cut b ∧ cut b ≤ 1000 := by
  obtain ⟨n, e, l, r⟩ := between (B := 1000) fiMinus fiPlus h1 h2
  have c : cut b = n := by
    unfold cut
    rw [show (FloatKind.f64.decode b).toInt .zero = some n from e]; rfl
  rw [c]
  refine ⟨?_, l, r⟩
  unfold floatToIntVal
  rw [show (FloatKind.f64.decode b).toInt .zero = some n from e]
  exact if_pos ⟨by show (-9223372036854775808 : Int) ≤ n; omega, by show n ≤ (9223372036854775807 : Int); omega⟩
/-- Is it whole? -/
def whole (b : Nat) : Bool := FloatKind.f64.format.order (floatOfInt .f64 (cut b)) b == some .eq
def wholeN (b : Nat) : Int := if ge b = true ∧ le b = true then cut b else 0
def wholeB (b : Nat) : Bool := ge b && (le b && whole b)
theorem cmp_ge {n m : Int} (h : m ≤ n) : (some (compare n m) == some Ordering.gt || some (compare n m) == some Ordering.eq) = true := by
  by_cases c : n = m
  · rw [Int.compare_eq_eq.2 c]; rfl
  · rw [Int.compare_eq_gt.2 (by omega)]; rfl
theorem cmp_le {n m : Int} (h : n ≤ m) : (some (compare n m) == some Ordering.lt || some (compare n m) == some Ordering.eq) = true := by
  by_cases c : n = m
  · rw [Int.compare_eq_eq.2 c]; rfl
  · rw [Int.compare_eq_lt.2 (by omega)]; rfl
theorem FI.cut {b : Nat} {n : Int} (h : FI b n) : cut b = n := by
  unfold Fl.cut
  rw [show (FloatKind.f64.decode b).toInt .zero = some n from DI.toInt h]; rfl
theorem FI.small {b : Nat} {n : Int} (h : FI b n) (h1 : -1000 ≤ n) (h2 : n ≤ 1000) : wholeN b = n ∧ wholeB b = true := by
  have a1 : ge b = true := by unfold ge; rw [h.order fiMinus]; exact cmp_ge h1
  have a2 : le b = true := by unfold le; rw [h.order fiPlus]; exact cmp_le h2
  have a3 : whole b = true := by
    unfold whole; rw [h.cut, (FI.ofInt n (by omega)).order h, Int.compare_eq_eq.2 rfl]; rfl
  unfold wholeN wholeB
  rw [if_pos ⟨a1, a2⟩, a1, a2, a3]
  exact ⟨h.cut, rfl⟩
end Fl
end Go.Proofs.Ytaijiihlkcbdhaa
