/-
  The reference's Max, MaxBack, Avg, AvgBack, whatever comes, in one law each.
-/
import Derived.Test.YtaijiihlkcbdhaaRefMaxYes
import Derived.Test.YtaijiihlkcbdhaaRefAvgBack
namespace Go.Proofs.Ytaijiihlkcbdhaa
open Go.RowKit
set_option linter.unusedVariables false
theorem refMax_gen (a : Option Addr) (l c : Nat) (d : List Int) (e : Int) (b : Option Addr) (m k0 : Nat) (z : List Int) (k s : Int) (w : World) (h0 : RowAt .i64 w a l d) (h1 : RowAt .i8 w b m z) :
    Calls Try.prog 19 #[tensor a l c e b m k0, .int .i64 k, .int .i64 s] w (GivesT (T.gDims d e z k s) (T.gExp d e z k s) (T.gMax d e z k s) (T.gTop d e z k s) (T.err d e z k s) w) := by
  unfold T.gDims T.gExp T.gMax T.gTop
  by_cases h : T.err d e z k s = 0
  · rw [if_pos h, if_pos h, if_pos h, if_pos h, h]
    obtain ⟨ht, ho⟩ := T.err_zero h
    obtain rfl : l = 4 := by rw [← h0.len_eq]; exact ho.1
    obtain ⟨_, _, kb1, kb2, _, _, _, _⟩ := outW_fit (show 1 ≤ outW (d.getD 2 0) k s 0 by have := ho.2.1; omega)
    obtain ⟨K, rfl⟩ : ∃ K : Nat, k = K := ⟨k.toNat, by omega⟩
    exact refMax_yes a c d e b m k0 z K s w h0 h1 ht ho
  · rw [if_neg h, if_neg h, if_neg h, if_neg h]
    by_cases ht : T.may d e z
    · have ho : ¬ overOk d k s := fun ho => h (by unfold T.err; rw [if_neg (fun g => g ht), if_pos ho])
      rw [show T.err d e z k s = 2 by unfold T.err; rw [if_neg (fun g => g ht), if_neg ho]]
      exact refMax_shape a l c d e b m k0 z k s w h0 h1 ht ho
    · rw [show T.err d e z k s = 1 by unfold T.err; rw [if_pos ht]]
      exact refMax_arg a l c d e b m k0 z k s w h0 h1 ht
theorem refAvg_gen (a : Option Addr) (l c : Nat) (d : List Int) (e : Int) (b : Option Addr) (m k0 : Nat) (z : List Int) (k s : Int) (w : World) (h0 : RowAt .i64 w a l d) (h1 : RowAt .i8 w b m z) :
    Calls Try.prog 21 #[tensor a l c e b m k0, .int .i64 k, .int .i64 s] w (GivesA (T.gDims d e z k s) (T.gLess d e z k s) (T.gSum d e z k s) (T.err d e z k s) w) := by
  unfold T.gDims T.gLess T.gSum
  by_cases h : T.err d e z k s = 0
  · rw [if_pos h, if_pos h, if_pos h, h]
    obtain ⟨ht, ho⟩ := T.err_zero h
    obtain rfl : l = 4 := by rw [← h0.len_eq]; exact ho.1
    obtain ⟨_, _, kb1, kb2, _, _, _, _⟩ := outW_fit (show 1 ≤ outW (d.getD 2 0) k s 0 by have := ho.2.1; omega)
    obtain ⟨K, rfl⟩ : ∃ K : Nat, k = K := ⟨k.toNat, by omega⟩
    exact refAvg_yes a c d e b m k0 z K s w h0 h1 ht ho
  · rw [if_neg h, if_neg h, if_neg h]
    by_cases ht : T.may d e z
    · have ho : ¬ overOk d k s := fun ho => h (by unfold T.err; rw [if_neg (fun g => g ht), if_pos ho])
      rw [show T.err d e z k s = 2 by unfold T.err; rw [if_neg (fun g => g ht), if_neg ho]]
      exact refAvg_shape a l c d e b m k0 z k s w h0 h1 ht ho
    · rw [show T.err d e z k s = 1 by unfold T.err; rw [if_pos ht]]
      exact refAvg_arg a l c d e b m k0 z k s w h0 h1 ht
theorem refMaxBack_gen (a : Option Addr) (l c : Nat) (d : List Int) (e : Int) (b : Option Addr) (m k0 : Nat) (z : List Int) (fa : Option Addr) (fl fc : Nat) (fs : List Int) (da : Option Addr) (dl dc : Nat) (ds : List Int) (w : World) (h0 : RowAt .i64 w a l d) (h1 : RowAt .i8 w b m z) (h2 : RowAt .i64 w fa fl fs) (h3 : RowAt .i64 w da dl ds) :
    Calls Try.prog 20 #[tensor a l c e b m k0, .slice fa fl fc, .slice da dl dc] w (GivesA (T.bDims d e z fs ds) (T.bExp d e z fs ds) (T.bData d e z fs ds) (T.bErr d e z fs ds) w) := by
  unfold T.bDims T.bExp T.bData T.bErr
  by_cases c1 : ¬ T.may d e z ∨ Sh.size ds = 0
  · rw [if_pos c1, if_neg (by omega), if_neg (by omega), if_neg (by omega)]
    exact refMaxBack_arg a l c d e b m k0 z fa fl fc fs da dl dc ds w h0 h1 h2 h3 c1
  · have ht : T.may d e z := Decidable.byContradiction fun h => c1 (Or.inl h)
    have hs : Sh.size ds ≠ 0 := fun h => c1 (Or.inr h)
    have hpos : 0 < Sh.size ds := Decidable.byContradiction fun h => hs (Sh.size_zero h)
    rw [if_neg c1]
    by_cases c2 : fs.length ≠ z.length
    · rw [if_pos c2, if_neg (by omega), if_neg (by omega), if_neg (by omega)]
      exact refMaxBack_shape a l c d e b m k0 z fa fl fc fs da dl dc ds w h0 h1 h2 h3 ht hpos c2
    · have hlen : fs.length = z.length := by simpa using c2
      have my := Sh.may_of hpos
      have e1 := my.eq
      have e2 := my.le
      have l1 := my.l1
      have l4 := my.l4
      have hz8 := T.may_len ht
      rw [h3.len_eq] at l1 l4
      obtain ⟨n, hn⟩ : ∃ n : Nat, Sh.size ds = n := ⟨(Sh.size ds).toNat, by omega⟩
      obtain rfl : fl = m := by rw [← h1.len_eq, ← h2.len_eq]; exact hlen
      have hy := refMaxBack_yes a l c d e b fl k0 z fa fc fs da dl dc ds n w h0 h1 h2 h3 ht hn (by omega) (by omega) ⟨by omega, by omega⟩ (by rw [← h1.len_eq]; exact hz8)
      rw [if_neg c2, hn, Int.toNat_natCast, h1.len_eq]
      by_cases c3 : T.inAll fs n
      · rw [if_pos c3] at hy ⊢
        rw [if_pos rfl, if_pos rfl, if_pos rfl]
        exact hy
      · rw [if_neg c3] at hy ⊢
        rw [if_neg (by omega), if_neg (by omega), if_neg (by omega)]
        exact hy
theorem refAvgBack_gen (a : Option Addr) (l c : Nat) (d : List Int) (e : Int) (b : Option Addr) (m k0 : Nat) (z : List Int) (da : Option Addr) (dl dc : Nat) (ds : List Int) (k s : Int) (w : World) (h0 : RowAt .i64 w a l d) (h1 : RowAt .i8 w b m z) (h3 : RowAt .i64 w da dl ds) :
    Calls Try.prog 22 #[tensor a l c e b m k0, .slice da dl dc, .int .i64 k, .int .i64 s] w (GivesA (T.aDims d e z ds k s) (T.aExp d e z ds k s) (T.aData d e z ds k s) (T.aErr d e z ds k s) w) := by
  unfold T.aDims T.aExp T.aData
  by_cases c1 : T.may d e z ∧ 0 < Sh.size ds
  · by_cases c2 : overOk ds k s
    · by_cases c3 : d = T.outDims ds k s
      · rw [T.aErr_ok c1 ⟨c2, c3⟩, if_pos rfl, if_pos rfl, if_pos rfl]
        obtain ⟨s1, _⟩ := T.out_size (T.may_zero c1.2) c2
        have hm : T.count ds k s = m := by
          have h5 := c1.1.2.1
          rw [c3, s1, h1.len_eq] at h5
          exact (Int.ofNat.inj h5).symm
        obtain ⟨n, hn⟩ : ∃ n : Nat, Sh.size ds = n := ⟨(Sh.size ds).toNat, by have := c1.2; omega⟩
        have := refAvgBack_yes0 a l c d e b m k0 z da dl dc ds k s w h0 h1 h3 c1.1 c1.2 c2 c3.symm n hn hm
        unfold T.aBacks
        rw [hm, hn, Int.toNat_natCast]
        exact this
      · rw [T.aErr_shape c1 (fun h => c3 h.2), if_neg (by omega), if_neg (by omega), if_neg (by omega)]
        exact refAvgBack_diff a l c d e b m k0 z da dl dc ds k s w h0 h1 h3 c1.1 c1.2 c2 (fun h => c3 h.symm)
    · rw [T.aErr_shape c1 (fun h => c2 h.1), if_neg (by omega), if_neg (by omega), if_neg (by omega)]
      exact refAvgBack_none a l c d e b m k0 z da dl dc ds k s w h0 h1 h3 c1.1 c1.2 c2
  · rw [T.aErr_arg c1, if_neg (by omega), if_neg (by omega), if_neg (by omega)]
    exact refAvgBack_arg a l c d e b m k0 z da dl dc ds k s w h0 h1 h3 (by
      by_cases h : T.may d e z
      · exact Or.inr (Decidable.byContradiction fun g => c1 ⟨h, Decidable.byContradiction fun f => g (Sh.size_zero f)⟩)
      · exact Or.inl h)
end Go.Proofs.Ytaijiihlkcbdhaa
