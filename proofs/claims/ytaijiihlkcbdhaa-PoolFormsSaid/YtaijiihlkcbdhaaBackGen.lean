/-
  MaxBack and AvgBack, whatever comes, in one law each.
-/
import Derived.Test.YtaijiihlkcbdhaaAvgBackYes
import Derived.Test.YtaijiihlkcbdhaaPoolMaxPlain
import Derived.Test.YtaijiihlkcbdhaaPoolGen
namespace Go.Proofs.Ytaijiihlkcbdhaa
open Go.RowKit
set_option linter.unusedVariables false
namespace T
def bDims (gd : List Int) (ge : Int) (gz fs ds : List Int) : List Int := if bErr gd ge gz fs ds = 0 then ds else []
def bExp (gd : List Int) (ge : Int) (gz fs ds : List Int) : Int := if bErr gd ge gz fs ds = 0 then ge else 0
def bData (gd : List Int) (ge : Int) (gz fs ds : List Int) : List Int := if bErr gd ge gz fs ds = 0 then puts (Sh.size ds).toNat (pairs fs gz gz.length) else []
/-- What AvgBack answers. -/
def aErr (gd : List Int) (ge : Int) (gz ds : List Int) (k s : Int) : Int := if ¬ (may gd ge gz ∧ 0 < Sh.size ds) then 1 else if overOk ds k s ∧ gd = outDims ds k s then 0 else 2
def aDims (gd : List Int) (ge : Int) (gz ds : List Int) (k s : Int) : List Int := if aErr gd ge gz ds k s = 0 then ds else []
def aExp (gd : List Int) (ge : Int) (gz ds : List Int) (k s : Int) : Int := if aErr gd ge gz ds k s = 0 then ge - k / 2 * 2 else 0
def aBacks (gz ds : List Int) (k s : Int) : List (Int × Int) := backs gz (ds.getD 2 0) (ds.getD 3 0) k s (rowsOf ds k s) (colsOf ds k s) (count ds k s)
def aData (gd : List Int) (ge : Int) (gz ds : List Int) (k s : Int) : List Int := if aErr gd ge gz ds k s = 0 then puts (Sh.size ds).toNat (aBacks gz ds k s) else []
theorem aErr_arg {gd : List Int} {ge : Int} {gz ds : List Int} {k s : Int} (h : ¬ (may gd ge gz ∧ 0 < Sh.size ds)) : aErr gd ge gz ds k s = 1 := by unfold aErr; rw [if_pos h]
theorem aErr_ok {gd : List Int} {ge : Int} {gz ds : List Int} {k s : Int} (h : may gd ge gz ∧ 0 < Sh.size ds) (h2 : overOk ds k s ∧ gd = outDims ds k s) : aErr gd ge gz ds k s = 0 := by unfold aErr; rw [if_neg (fun g => g h), if_pos h2]
theorem aErr_shape {gd : List Int} {ge : Int} {gz ds : List Int} {k s : Int} (h : may gd ge gz ∧ 0 < Sh.size ds) (h2 : ¬ (overOk ds k s ∧ gd = outDims ds k s)) : aErr gd ge gz ds k s = 2 := by unfold aErr; rw [if_neg (fun g => g h), if_neg h2]
/-- Lengths that may be: with noughts they are a tensor. -/
theorem may_zero {d : List Int} (h : 0 < Sh.size d) : may d 0 (List.replicate (Sh.size d).toNat 0) := by
  refine ⟨h, by rw [List.length_replicate]; omega, ⟨by omega, by omega⟩, fun hm => ?_⟩
  have := (List.mem_replicate.1 hm).2
  omega
theorem may_len {d : List Int} {e : Int} {z : List Int} (h : may d e z) : z.length ≤ 8192 := by
  have my := Sh.may_of h.1
  have := my.eq
  have := my.le
  have := h.2.1
  omega
end T
theorem maxBack_gen (a : Option Addr) (l c : Nat) (d : List Int) (e : Int) (b : Option Addr) (m k0 : Nat) (z : List Int) (fa : Option Addr) (fl fc : Nat) (fs : List Int) (da : Option Addr) (dl dc : Nat) (ds : List Int) (w : World) (h0 : RowAt .i64 w a l d) (h1 : RowAt .i8 w b m z) (h2 : RowAt .i64 w fa fl fs) (h3 : RowAt .i64 w da dl ds) :
    Calls Try.prog 16 #[tensor a l c e b m k0, .slice fa fl fc, .slice da dl dc] w (GivesA (T.bDims d e z fs ds) (T.bExp d e z fs ds) (T.bData d e z fs ds) (T.bErr d e z fs ds) w) := by
  unfold T.bDims T.bExp T.bData T.bErr
  by_cases c1 : ¬ T.may d e z ∨ Sh.size ds = 0
  · rw [if_pos c1, if_neg (by omega), if_neg (by omega), if_neg (by omega)]
    exact maxBack_arg a l c d e b m k0 z fa fl fc fs da dl dc ds w h0 h1 h2 h3 c1
  · have ht : T.may d e z := Decidable.byContradiction fun h => c1 (Or.inl h)
    have hs : Sh.size ds ≠ 0 := fun h => c1 (Or.inr h)
    rw [if_neg c1]
    by_cases c2 : fs.length ≠ z.length
    · rw [if_pos c2, if_neg (by omega), if_neg (by omega), if_neg (by omega)]
      exact maxBack_shape a l c d e b m k0 z fa fl fc fs da dl dc ds w h0 h1 h2 h3 ht hs c2
    · have hlen : fs.length = z.length := by simpa using c2
      have hpos : 0 < Sh.size ds := Decidable.byContradiction fun h => hs (Sh.size_zero h)
      have my := Sh.may_of hpos
      have e1 := my.eq
      have e2 := my.le
      have l1 := my.l1
      have l4 := my.l4
      have hz8 := T.may_len ht
      rw [h3.len_eq] at l1 l4
      obtain ⟨n, hn⟩ : ∃ n : Nat, Sh.size ds = n := ⟨(Sh.size ds).toNat, by omega⟩
      obtain rfl : fl = m := by rw [← h1.len_eq, ← h2.len_eq]; exact hlen
      have hy := maxBack_yes a l c d e b fl k0 z fa fc fs da dl dc ds n w h0 h1 h2 h3 ht hn (by omega) (by omega) ⟨by omega, by omega⟩ (by rw [← h1.len_eq]; exact hz8)
      rw [if_neg c2, hn, Int.toNat_natCast, h1.len_eq]
      by_cases c3 : T.inAll fs n
      · rw [if_pos c3] at hy ⊢
        rw [if_pos rfl, if_pos rfl, if_pos rfl]
        exact hy
      · rw [if_neg c3] at hy ⊢
        rw [if_neg (by omega), if_neg (by omega), if_neg (by omega)]
        exact hy
theorem avgBack_gen (a : Option Addr) (l c : Nat) (d : List Int) (e : Int) (b : Option Addr) (m k0 : Nat) (z : List Int) (da : Option Addr) (dl dc : Nat) (ds : List Int) (k s : Int) (w : World) (h0 : RowAt .i64 w a l d) (h1 : RowAt .i8 w b m z) (h3 : RowAt .i64 w da dl ds) :
    Calls Try.prog 18 #[tensor a l c e b m k0, .slice da dl dc, .int .i64 k, .int .i64 s] w (GivesA (T.aDims d e z ds k s) (T.aExp d e z ds k s) (T.aData d e z ds k s) (T.aErr d e z ds k s) w) := by
  unfold T.aDims T.aExp T.aData
  by_cases c1 : T.may d e z ∧ 0 < Sh.size ds
  · by_cases c2 : overOk ds k s
    · have hz := T.may_zero c1.2
      obtain ⟨f1, f2, f3, f4, f5, f6, f7, f8, f9, f10, f11, f12, f13⟩ := T.facts hz c2
      obtain ⟨s1, s2, s3, s4, s5⟩ := T.out_size hz c2
      rw [List.length_replicate] at f8 f9
      obtain ⟨n, hn⟩ : ∃ n : Nat, Sh.size ds = n := ⟨(Sh.size ds).toNat, by have := c1.2; omega⟩
      have hp := c1.2
      have hm8 := T.may_len c1.1
      rw [h1.len_eq] at hm8
      rw [hn, Int.toNat_natCast] at f8 f9
      obtain rfl : dl = 4 := by rw [← h3.len_eq]; exact c2.1
      have hy := avgBack_yes a l c d e b m k0 z da dc ds k s (T.rowsOf ds k s) (T.colsOf ds k s) (T.planes ds) n w h0 h1 h3 c1.1 hn (by omega) f9 f1 f2 f3 f4 f5 f6 f8 (fun hd => by
        have h4 : d = T.outDims ds k s := hd
        have h5 := c1.1.2.1
        rw [h4, s1, h1.len_eq] at h5
        exact Int.ofNat.inj h5) hm8 f7
      by_cases c3 : d = [ds.getD 0 0, ds.getD 1 0, (T.rowsOf ds k s : Int), (T.colsOf ds k s : Int)]
      · rw [if_pos c3] at hy
        rw [T.aErr_ok c1 ⟨c2, c3⟩, if_pos rfl, if_pos rfl, if_pos rfl, hn, Int.toNat_natCast]
        exact hy
      · rw [if_neg c3] at hy
        rw [T.aErr_shape c1 (fun h => c3 h.2), if_neg (by omega), if_neg (by omega), if_neg (by omega)]
        exact hy
    · rw [T.aErr_shape c1 (fun h => c2 h.1), if_neg (by omega), if_neg (by omega), if_neg (by omega)]
      exact avgBack_none a l c d e b m k0 z da dl dc ds k s w h0 h1 h3 c1.1 c1.2 (fun h => c2 ⟨by rw [h3.len_eq]; exact h.1, h.2⟩)
  · rw [T.aErr_arg c1, if_neg (by omega), if_neg (by omega), if_neg (by omega)]
    exact avgBack_arg a l c d e b m k0 z da dl dc ds k s w h0 h1 h3 c1
end Go.Proofs.Ytaijiihlkcbdhaa
