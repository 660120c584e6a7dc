/-
  Max and Avg, whatever comes.
-/
import Derived.Test.YtaijiihlkcbdhaaPoolAvg
import Derived.Test.YtaijiihlkcbdhaaPoolMaxYes
namespace Go.Proofs.Ytaijiihlkcbdhaa
open Go.RowKit
set_option linter.unusedVariables false
def overOk (d : List Int) (k s : Int) : Prop := d.length = 4 ∧ 0 < outW (d.getD 2 0) k s 0 ∧ 0 < outW (d.getD 3 0) k s 0
instance (d : List Int) (k s : Int) : Decidable (overOk d k s) := by unfold overOk; infer_instance
namespace T
/-- How many planes, rows and columns of windows. -/
def planes (d : List Int) : Nat := (d.getD 0 0 * d.getD 1 0).toNat
def rowsOf (d : List Int) (k s : Int) : Nat := (outW (d.getD 2 0) k s 0).toNat
def colsOf (d : List Int) (k s : Int) : Nat := (outW (d.getD 3 0) k s 0).toNat
def count (d : List Int) (k s : Int) : Nat := planes d * (rowsOf d k s * colsOf d k s)
def err (d : List Int) (e : Int) (z : List Int) (k s : Int) : Int := if ¬ may d e z then 1 else if overOk d k s then 0 else 2
def outDims (d : List Int) (k s : Int) : List Int := [d.getD 0 0, d.getD 1 0, rowsOf d k s, colsOf d k s]
def maxOf (d z : List Int) (k s : Int) : List Int := maxs z (d.getD 2 0) (d.getD 3 0) k s (rowsOf d k s) (colsOf d k s) (count d k s)
def topOf (d z : List Int) (k s : Int) : List Int := tops z (d.getD 2 0) (d.getD 3 0) k s (rowsOf d k s) (colsOf d k s) (count d k s)
def sumOf (d z : List Int) (k s : Int) : List Int := sums z (d.getD 2 0) (d.getD 3 0) k s (rowsOf d k s) (colsOf d k s) (count d k s)
/-- The numbers that hang together. -/
theorem facts {d : List Int} {e : Int} {z : List Int} {k s : Int} (ht : may d e z) (ho : overOk d k s) :
    outW (d.getD 2 0) k s 0 = rowsOf d k s ∧ outW (d.getD 3 0) k s 0 = colsOf d k s ∧ 0 < rowsOf d k s ∧ 0 < colsOf d k s ∧ d.getD 0 0 * d.getD 1 0 = planes d ∧ planes d ≤ 8192 ∧ 0 < planes d ∧
    (z.length : Int) = planes d * d.getD 2 0 * d.getD 3 0 ∧ z.length ≤ 8192 ∧ 1 ≤ d.getD 0 0 ∧ 1 ≤ d.getD 1 0 ∧ 1 ≤ d.getD 2 0 ∧ 1 ≤ d.getD 3 0 := by
  obtain ⟨t1, t2, t3, t4⟩ := ht
  obtain ⟨o1, o2, o3⟩ := ho
  have my := Sh.may_of t1
  have hp := my.eq
  match d, o1 with
  | [a, b, c, f], _ =>
    have ea := (my.each a (by simp)).1
    have eb := (my.each b (by simp)).1
    have ec := (my.each c (by simp)).1
    have ef := (my.each f (by simp)).1
    have hle := my.le
    have hprod : Sh.prod [a, b, c, f] = a * (b * (c * (f * 1))) := rfl
    rw [hprod, Int.mul_one] at hp hle
    have h1 := Int.mul_le_mul ea eb (by omega) (by omega)
    have h2 := Int.mul_le_mul ec ef (by omega) (by omega)
    have e1 : a * (b * (c * f)) = a * b * (c * f) := by rw [Int.mul_assoc]
    rw [e1] at hp hle
    have h3 : a * b ≤ a * b * (c * f) := by
      have := Int.mul_le_mul_of_nonneg_left (show 1 ≤ c * f by omega) (show 0 ≤ a * b by omega)
      omega
    unfold rowsOf colsOf planes
    simp only [List.getD_cons_zero, List.getD_cons_succ] at *
    have e2 : (((a * b).toNat : Nat) : Int) = a * b := Int.toNat_of_nonneg (by omega)
    refine ⟨by omega, by omega, by omega, by omega, e2.symm, by omega, by omega, ?_, by omega, ea, eb, ec, ef⟩
    rw [t2, hp, e2, Int.mul_assoc (a * b)]
end T
/-- What Max gives, whatever comes. -/
def GivesT (ds : List Int) (e : Int) (zs fs : List Int) (err : Int) (w : World) : Ending → World → Prop := fun r w' => ∃ a l c b m k g n h, r = .returned (.tuple #[tensor a l c e b m k, .slice g n h, .int .i64 err]) ∧ RowAt .i64 w' a l ds ∧ RowAt .i8 w' b m zs ∧ RowAt .i64 w' g n fs ∧ Below w.heap.size w w'
def GivesA (ds : List Int) (e : Int) (zs : List Int) (err : Int) (w : World) : Ending → World → Prop := fun r w' => ∃ a l c b m k, r = .returned (.tuple #[tensor a l c e b m k, .int .i64 err]) ∧ RowAt .i64 w' a l ds ∧ RowAt .i32 w' b m zs ∧ Below w.heap.size w w'
theorem max_goodC (a : Option Addr) (l c : Nat) (d : List Int) (e : Int) (b : Option Addr) (m k0 : Nat) (z : List Int) (k s : Int) (w : World) (h0 : RowAt .i64 w a l d) (h1 : RowAt .i8 w b m z) (ht : T.may d e z) (ho : overOk d k s) :
    Calls Try.prog 10 #[tensor a l c e b m k0, .int .i64 k, .int .i64 s] w (GivesMaxC (T.outDims d k s) e (T.maxOf d z k s) (T.topOf d z k s) w) := by
  obtain ⟨f1, f2, f3, f4, f5, f6, f7, f8, f9, _⟩ := T.facts ht ho
  obtain rfl : l = 4 := by rw [← h0.len_eq]; exact ho.1
  rw [h1.len_eq] at f8 f9
  exact max_yesC a c d e b m k0 z k s (T.rowsOf d k s) (T.colsOf d k s) (T.planes d) w h0 h1 ht f1 f2 f3 f4 f5 f6 f8 f9
theorem max_good (a : Option Addr) (l c : Nat) (d : List Int) (e : Int) (b : Option Addr) (m k0 : Nat) (z : List Int) (k s : Int) (w : World) (h0 : RowAt .i64 w a l d) (h1 : RowAt .i8 w b m z) (ht : T.may d e z) (ho : overOk d k s) :
    Calls Try.prog 10 #[tensor a l c e b m k0, .int .i64 k, .int .i64 s] w (GivesT (T.outDims d k s) e (T.maxOf d z k s) (T.topOf d z k s) 0 w) := by
  obtain ⟨f1, f2, f3, f4, f5, f6, f7, f8, f9, _⟩ := T.facts ht ho
  obtain rfl : l = 4 := by rw [← h0.len_eq]; exact ho.1
  rw [h1.len_eq] at f8 f9
  exact max_yes a c d e b m k0 z k s (T.rowsOf d k s) (T.colsOf d k s) (T.planes d) w h0 h1 ht f1 f2 f3 f4 f5 f6 f8 f9
theorem max_bad (a : Option Addr) (l c : Nat) (d : List Int) (e : Int) (b : Option Addr) (m k0 : Nat) (z : List Int) (k s : Int) (w : World) (h0 : RowAt .i64 w a l d) (h1 : RowAt .i8 w b m z) (h : T.err d e z k s ≠ 0) :
    Calls Try.prog 10 #[tensor a l c e b m k0, .int .i64 k, .int .i64 s] w (GivesT [] 0 [] [] (T.err d e z k s) w) := by
  unfold T.err at h ⊢
  by_cases ht : T.may d e z
  · rw [if_neg (by simpa using ht)] at h ⊢
    by_cases ho : overOk d k s
    · rw [if_pos ho] at h; exact absurd rfl h
    · rw [if_neg ho] at h ⊢
      refine (max_shape a l c d e b m k0 z k s w h0 h1 ht (fun g => ho ⟨by rw [h0.len_eq]; exact g.1, g.2⟩)).mono ?_
      rintro r w' ⟨rfl, hb⟩
      exact ⟨_, _, _, _, _, _, _, _, _, rfl, RowAt.zero _ _ _, RowAt.zero _ _ _, RowAt.zero _ _ _, hb⟩
  · rw [if_pos ht] at h ⊢
    refine (max_arg a l c d e b m k0 z k s w h0 h1 ht).mono ?_
    rintro r w' ⟨rfl, hb⟩
    exact ⟨_, _, _, _, _, _, _, _, _, rfl, RowAt.zero _ _ _, RowAt.zero _ _ _, RowAt.zero _ _ _, hb⟩
theorem avg_bad (a : Option Addr) (l c : Nat) (d : List Int) (e : Int) (b : Option Addr) (m k0 : Nat) (z : List Int) (k s : Int) (w : World) (h0 : RowAt .i64 w a l d) (h1 : RowAt .i8 w b m z) (h : T.err d e z k s ≠ 0) :
    Calls Try.prog 11 #[tensor a l c e b m k0, .int .i64 k, .int .i64 s] w (GivesA [] 0 [] (T.err d e z k s) w) := by
  unfold T.err at h ⊢
  by_cases ht : T.may d e z
  · rw [if_neg (by simpa using ht)] at h ⊢
    by_cases ho : overOk d k s
    · rw [if_pos ho] at h; exact absurd rfl h
    · rw [if_neg ho] at h ⊢
      refine (avg_shape a l c d e b m k0 z k s w h0 h1 ht (fun g => ho ⟨by rw [h0.len_eq]; exact g.1, g.2⟩)).mono ?_
      rintro r w' ⟨rfl, hb⟩
      exact ⟨_, _, _, _, _, _, rfl, RowAt.zero _ _ _, RowAt.zero _ _ _, hb⟩
  · rw [if_pos ht] at h ⊢
    refine (avg_arg a l c d e b m k0 z k s w h0 h1 ht).mono ?_
    rintro r w' ⟨rfl, hb⟩
    exact ⟨_, _, _, _, _, _, rfl, RowAt.zero _ _ _, RowAt.zero _ _ _, hb⟩
theorem T.err_zero {d : List Int} {e : Int} {z : List Int} {k s : Int} (h : T.err d e z k s = 0) : T.may d e z ∧ overOk d k s := by
  unfold T.err at h
  split at h
  · cases h
  · rename_i ht
    split at h
    · exact ⟨by simpa using ht, ‹_›⟩
    · cases h
theorem T.err_of {d : List Int} {e : Int} {z : List Int} {k s : Int} (ht : T.may d e z) (ho : overOk d k s) : T.err d e z k s = 0 := by
  unfold T.err
  rw [if_neg (by simpa using ht), if_pos ho]
end Go.Proofs.Ytaijiihlkcbdhaa
