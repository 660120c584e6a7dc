/-
  A row that is filled, number by number; sums that are to be filled.
-/
import Derived.Test.YtaijiihlkcbdhaaRefBack
import Derived.Test.YtaijiihlkcbdhaaRefMax
namespace Go.Proofs.Ytaijiihlkcbdhaa
open Go.RowKit
set_option linter.unusedVariables false
namespace T
/-- The first j numbers are there. -/
def upTo (f : Nat → Int) (n j : Nat) : List Int := (List.range n).map (fun i => if i < j then f i else 0)
theorem length_upTo (f : Nat → Int) (n j : Nat) : (upTo f n j).length = n := by simp [upTo]
theorem upTo_all (f : Nat → Int) (n : Nat) : upTo f n n = (List.range n).map f := by
  unfold upTo
  exact List.map_congr_left fun i hi => if_pos (List.mem_range.1 hi)
theorem upTo_zero (f : Nat → Int) (n : Nat) : puts n [] = upTo f n 0 := by
  unfold puts upTo
  apply List.ext_getElem
  · simp
  · intro i h1 h2
    simp
theorem upTo_at (f : Nat → Int) (n j i : Nat) (h : i < (upTo f n j).length) : (upTo f n j)[i]'h = if i < j then f i else 0 := by simp [upTo]
theorem upTo_set (f : Nat → Int) (n k : Nat) (hk : k < n) : (upTo f n k).set k (f k) = upTo f n (k + 1) := by
  apply List.ext_getElem
  · simp [upTo]
  · intro i h1 h2
    simp only [List.getElem_set, upTo_at]
    by_cases c : k = i
    · subst c
      rw [if_pos rfl, if_pos (by omega)]
    · rw [if_neg c]
      by_cases c2 : i < k
      · rw [if_pos c2, if_pos (by omega)]
      · rw [if_neg c2, if_neg (by omega)]
theorem upTo_self (f : Nat → Int) (n k : Nat) : (upTo f n k).set k 0 = upTo f n k := by
  apply List.ext_getElem
  · simp [upTo]
  · intro i h1 h2
    simp only [List.getElem_set, upTo_at]
    by_cases c : k = i
    · subst c
      rw [if_pos rfl, if_neg (by omega)]
    · rw [if_neg c]
end T
/-- The sums that are to be filled: their lengths are another's row. -/
def AOut (a : Option Addr) (l c : Nat) (e : Int) (n : Nat) (w4 : World) (v : Value) (wx : World) : Prop := ∃ bo bd, v = .pointer (some ⟨bo, 0, none⟩) ∧ wx.heap[bo]? = some (.cells #[.slice a l c, .int .i64 e, .slice (some ⟨bd, 0, none⟩) n n] 33 (0, 0)) ∧
  wx.ownsRow w4.heap.size 21 1 (.slice (some ⟨bd, 0, none⟩) n n) n ((T.puts n []).map (Value.int .i32)) ∧ Below w4.heap.size w4 wx ∧ w4.heap.size ≤ bo ∧ bd ≠ bo
theorem AOut.late {a : Option Addr} {l c n gr : Nat} {e : Int} {w4 wa : World} (ho : wa.ownsRow w4.heap.size 21 1 (.slice (some ⟨gr, 0, none⟩) n n) n ((T.puts n []).map (Value.int .i32))) (hb : Below w4.heap.size w4 wa) :
    AOut a l c e n w4 (.pointer (some ⟨wa.heap.size, 0, none⟩)) (wa.alloc (.cells #[.slice a l c, .int .i64 e, .slice (some ⟨gr, 0, none⟩) n n] 33)) := by
  have h := (ho.lt gr rfl)
  exact ⟨_, gr, rfl, heap_alloc_new _ _, ho.alloc _, hb.step (below_alloc _ _), hb.size, by omega⟩
theorem AOut.soon {a : Option Addr} {l c n gr : Nat} {e : Int} {w4 wa : World} {x y z : Value} (hz : wa.heap[w4.heap.size]? = some (.cells #[x, y, z] 33 (0, 0))) (ho : wa.ownsRow (w4.heap.size + 1) 21 1 (.slice (some ⟨gr, 0, none⟩) n n) n ((T.puts n []).map (Value.int .i32))) (hb : Below w4.heap.size w4 wa) :
    AOut a l c e n w4 (.pointer (some ⟨w4.heap.size, 0, none⟩)) (((wa.setCell ⟨w4.heap.size, 0, none⟩ (.slice a l c)).setCell ⟨w4.heap.size, 1, none⟩ (.int .i64 e)).setCell ⟨w4.heap.size, 2, none⟩ (.slice (some ⟨gr, 0, none⟩) n n)) := by
  have h := (ho.lt gr rfl)
  refine ⟨_, gr, rfl, store3 hz, owned_set3 (owned_base ho (Nat.le_succ _)) (by omega), ?_, Nat.le_refl _, by omega⟩
  exact ((hb.setCell (by show w4.heap.size ≤ w4.heap.size; omega) _).setCell (by show w4.heap.size ≤ w4.heap.size; omega) _).setCell (by show w4.heap.size ≤ w4.heap.size; omega) _
end Go.Proofs.Ytaijiihlkcbdhaa
