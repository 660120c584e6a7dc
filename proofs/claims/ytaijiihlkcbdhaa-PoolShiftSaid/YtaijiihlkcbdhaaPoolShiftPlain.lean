/-
  All numbers one more.
-/
import Derived.Test.YtaijiihlkcbdhaaPoolOnePlain
import Derived.Test.YtaijiihlkcbdhaaPoolGen
namespace Go.Proofs.Ytaijiihlkcbdhaa
open Go.RowKit
set_option linter.unusedVariables false
namespace T
def up (z : List Int) : List Int := z.map (fun x => x + 1)
theorem up_getD {z : List Int} {i : Nat} (h : i < z.length) : (up z).getD i 0 = z.getD i 0 + 1 := by
  simp [up, List.getD, List.getElem?_eq_getElem h]
theorem up_len (z : List Int) : (up z).length = z.length := by simp [up]
theorem may_up {d : List Int} {e : Int} {z : List Int} (hw : ∀ x ∈ z, (Lit.int .i8 x).wf = true) (h : may d e z) : may d e (up z) := by
  refine ⟨h.1, by rw [up_len]; exact h.2.1, h.2.2.1, fun hm => ?_⟩
  obtain ⟨x, hx, e⟩ := List.mem_map.1 hm
  have := wf8 (hw x hx)
  omega
theorem err_up {d : List Int} {e : Int} {z : List Int} {k s : Int} (hw : ∀ x ∈ z, (Lit.int .i8 x).wf = true) (h : may d e z) : err d e (up z) k s = err d e z k s := by
  have h2 := may_up hw h
  unfold err
  rw [if_neg (show ¬ ¬ may d e (up z) from fun g => g h2), if_neg (show ¬ ¬ may d e z from fun g => g h)]
theorem best_up (z : List Int) : ∀ (L : List Int) (b : Int), (∀ a ∈ L, 0 ≤ a ∧ a < z.length) → 0 ≤ b → b < z.length → best (up z) b L = best z b L
  | [], b, _, _, _ => rfl
  | a :: L, b, hL, hb, hb2 => by
    have ha := hL a (by simp)
    have e1 := up_getD (z := z) (i := b.toNat) (by omega)
    have e2 := up_getD (z := z) (i := a.toNat) (by omega)
    show best (up z) (if (up z).getD b.toNat 0 < (up z).getD a.toNat 0 then a else b) L = best z (if z.getD b.toNat 0 < z.getD a.toNat 0 then a else b) L
    rw [e1, e2]
    by_cases c : z.getD b.toNat 0 < z.getD a.toNat 0
    · rw [if_pos c, if_pos (by omega)]
      exact best_up z L a (fun x hx => hL x (by simp [hx])) ha.1 ha.2
    · rw [if_neg c, if_neg (by omega)]
      exact best_up z L b (fun x hx => hL x (by simp [hx])) hb hb2
theorem sum_up (z : List Int) : ∀ L : List Int, (∀ a ∈ L, 0 ≤ a ∧ a < z.length) → sum (up z) L = sum z L + L.length
  | [], _ => rfl
  | a :: L, hL => by
    have ha := hL a (by simp)
    show (up z).getD a.toNat 0 + sum (up z) L = z.getD a.toNat 0 + sum z L + _
    rw [up_getD (by omega), sum_up z L (fun x hx => hL x (by simp [hx])), List.length_cons]
    push_cast
    omega
theorem len_square (f : Nat → Nat → Int) (k : Nat) : ∀ m, ((List.range m).flatMap (fun i => (List.range k).map (f i))).length = m * k
  | 0 => by simp
  | m + 1 => by
    rw [List.range_succ, List.flatMap_append, List.length_append, len_square f k m, Nat.succ_mul]
    simp
theorem wix_len {R C k s : Int} {P Q j : Nat} (hP : outW R k s 0 = P) (hQ : outW C k s 0 = Q) (hP0 : 0 < P) (hQ0 : 0 < Q) : ((wix R C k s P Q j).length : Int) = k * k := by
  obtain ⟨_, _, k1, _⟩ := outW_fit (show 1 ≤ outW R k s 0 by omega)
  rw [wix_full hP hQ hP0 hQ0, len_square]
  push_cast
  rw [Int.toNat_of_nonneg (by omega)]
theorem wix_in {d : List Int} {e : Int} {z : List Int} {k s : Int} (ht : may d e z) (ho : overOk d k s) {j : Nat} (hj : j < count d k s) :
    0 < (wix (d.getD 2 0) (d.getD 3 0) k s (rowsOf d k s) (colsOf d k s) j).length ∧ ∀ a ∈ wix (d.getD 2 0) (d.getD 3 0) k s (rowsOf d k s) (colsOf d k s) j, 0 ≤ a ∧ a < z.length := by
  obtain ⟨f1, f2, f3, f4, f5, f6, f7, f8, f9, f10, f11, f12, f13⟩ := facts ht ho
  have hM : 0 < rowsOf d k s * colsOf d k s := Nat.mul_pos f3 f4
  have hn : j / (rowsOf d k s * colsOf d k s) < planes d := Nat.div_lt_of_lt_mul (by rw [Nat.mul_comm]; exact hj)
  refine ⟨ix_pos f1 f2 (Nat.mod_lt _ hM) f4, fun a ha => ?_⟩
  rw [f8]
  exact ix_in f12 f13 hn a ha
theorem top_up {d : List Int} {e : Int} {z : List Int} {k s : Int} (ht : may d e z) (ho : overOk d k s) {j : Nat} (hj : j < count d k s) :
    top (up z) (d.getD 2 0) (d.getD 3 0) k s (rowsOf d k s) (colsOf d k s) j = top z (d.getD 2 0) (d.getD 3 0) k s (rowsOf d k s) (colsOf d k s) j := by
  obtain ⟨h1, h2⟩ := wix_in ht ho hj
  unfold top
  generalize wix (d.getD 2 0) (d.getD 3 0) k s (rowsOf d k s) (colsOf d k s) j = L at *
  have h3 : L.getD 0 0 ∈ L := by simp [List.getD, List.getElem?_eq_getElem h1]
  exact best_up z L _ h2 (h2 _ h3).1 (h2 _ h3).2
theorem topOf_up {d : List Int} {e : Int} {z : List Int} {k s : Int} (ht : may d e z) (ho : overOk d k s) : topOf d (up z) k s = topOf d z k s :=
  List.map_congr_left fun j hj => top_up ht ho (List.mem_range.1 hj)
theorem maxOf_up {d : List Int} {e : Int} {z : List Int} {k s : Int} (ht : may d e z) (ho : overOk d k s) {j : Nat} (hj : j < count d k s) : (maxOf d (up z) k s).getD j 0 = (maxOf d z k s).getD j 0 + 1 := by
  obtain ⟨f1, f2, f3, f4, f5, f6, f7, f8, _⟩ := facts ht ho
  have := top_in (D := z) (N := planes d) f1 f2 f3 f4 hj
  unfold maxOf maxs
  rw [getD_map_range _ hj, getD_map_range _ hj, top_up ht ho hj, up_getD (by omega)]
theorem sumOf_up {d : List Int} {e : Int} {z : List Int} {k s : Int} (ht : may d e z) (ho : overOk d k s) {j : Nat} (hj : j < count d k s) : (sumOf d (up z) k s).getD j 0 = (sumOf d z k s).getD j 0 + k * k := by
  obtain ⟨f1, f2, f3, f4, _⟩ := facts ht ho
  unfold sumOf sums
  rw [getD_map_range _ hj, getD_map_range _ hj, sum_up z _ (wix_in ht ho hj).2, wix_len f1 f2 f3 f4]
/-- .. of which the first k are made. -/
def upTo (z : List Int) (n k : Nat) : List Int := (List.range n).map fun i => if i < k then z.getD i 0 + 1 else 0
theorem length_upTo (z : List Int) (n k : Nat) : (upTo z n k).length = n := by simp [upTo]
theorem upTo_all (z : List Int) : upTo z z.length z.length = up z := by
  refine Sh.ext_getD (by simp [upTo, up]) fun i hi => ?_
  rw [length_upTo] at hi
  unfold upTo
  rw [getD_map_range _ hi, if_pos hi, up_getD hi]
theorem made_up (z : List Int) (n : Nat) : (madeCells #[Value.int IntKind.i8 0] n).toList = (upTo z n 0).map (Value.int .i8) := by
  rw [toList_madeCells_one]
  apply List.ext_getElem
  · simp [upTo]
  · intro i h1 h2
    simp [upTo]
theorem upTo_set (z : List Int) (n k : Nat) (hk : k < n) : (upTo z n k).set k (z.getD k 0 + 1) = upTo z n (k + 1) := by
  apply List.ext_getElem
  · simp [upTo]
  · intro i h1 h2
    rw [List.getElem_set]
    by_cases h : k = i
    · subst h; simp [upTo]
    · rw [if_neg h]
      simp only [upTo, List.getElem_map, List.getElem_range]
      by_cases h' : i < k
      · rw [if_pos h', if_pos (by omega)]
      · rw [if_neg h', if_neg (by omega)]
end T
end Go.Proofs.Ytaijiihlkcbdhaa
