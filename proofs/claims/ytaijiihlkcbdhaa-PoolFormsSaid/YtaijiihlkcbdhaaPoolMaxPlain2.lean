/-
  What goes in and comes back, in plain numbers.
-/
import Derived.Test.YtaijiihlkcbdhaaBackGen
namespace Go.Proofs.Ytaijiihlkcbdhaa
open Go.RowKit
set_option linter.unusedVariables false
namespace T
/-- The numbers that go back: those that came, where they may be. -/
def gq1 (g : List Int) (i : Nat) : Int := if i < g.length ∧ g.getD i 0 ≠ -128 then g.getD i 0 else 0
def gqTo (g : List Int) (n j : Nat) : List Int := (List.range n).map (fun i => if i < j then gq1 g i else 0)
def gq (g : List Int) (n : Nat) : List Int := (List.range n).map (gq1 g)
theorem gqTo_all (g : List Int) (n : Nat) : gqTo g n n = gq g n := by
  unfold gqTo gq
  exact List.map_congr_left fun i hi => by rw [if_pos (List.mem_range.1 hi)]
theorem gqTo_zero (g : List Int) (n : Nat) : (madeCells #[Value.int IntKind.i8 0] n).toList = (gqTo g n 0).map (Value.int .i8) := by
  rw [toList_madeCells_one]
  apply List.ext_getElem
  · simp [gqTo]
  · intro i h1 h2
    simp [gqTo]
theorem length_gqTo (g : List Int) (n j : Nat) : (gqTo g n j).length = n := by simp [gqTo]
theorem gqTo_set (g : List Int) (n k : Nat) (hk : k < n) : (gqTo g n k).set k (gq1 g k) = gqTo g n (k + 1) := by
  apply List.ext_getElem
  · simp [gqTo]
  · intro i h1 h2
    rw [List.getElem_set]
    by_cases h : k = i
    · subst h; simp [gqTo]
    · have : (i < k + 1) = (i < k) := by
        apply propext; omega
      simp [gqTo, h, this]
theorem gqTo_next (g : List Int) (n k : Nat) (hk : k < n) (h0 : gq1 g k = 0) : gqTo g n k = gqTo g n (k + 1) := by
  unfold gqTo
  refine List.map_congr_left fun i hi => ?_
  by_cases h : i = k
  · subst h
    rw [if_neg (by omega), if_pos (by omega), h0]
  · by_cases h2 : i < k
    · rw [if_pos h2, if_pos (by omega)]
    · rw [if_neg h2, if_neg (by omega)]
theorem gqTo_get (g : List Int) (n k : Nat) (hk : k < n) : (gqTo g n k)[k]? = some 0 := by
  unfold gqTo
  rw [List.getElem?_map, List.getElem?_range hk]
  simp
theorem gq_wf {g : List Int} (h : ∀ x ∈ g, (Lit.int .i8 x).wf = true) (i : Nat) : -128 < gq1 g i ∧ gq1 g i ≤ 127 := by
  unfold gq1
  have := getD8 h i
  split <;> omega
/-- What has been added up so far. -/
def gsum (g : List Int) (j : Nat) : Int := ((List.range j).map (gq1 g)).sum
theorem gsum_succ (g : List Int) (j : Nat) : gsum g (j + 1) = gsum g j + gq1 g j := by simp [gsum, List.range_succ]
theorem gsum_bound {g : List Int} (h : ∀ x ∈ g, (Lit.int .i8 x).wf = true) : ∀ j : Nat, -(128 * (j : Int)) ≤ gsum g j ∧ gsum g j ≤ 128 * (j : Int)
  | 0 => by simp [gsum]
  | j + 1 => by
    have h1 := gsum_bound h j
    have h2 := gq_wf h j
    rw [gsum_succ]
    push_cast
    omega
/-- What is left when so many of the row have been taken away. -/
theorem sum_take_succ {L : List Int} {j : Nat} (h : j < L.length) : (L.take (j + 1)).sum = (L.take j).sum + L.getD j 0 := by
  rw [List.take_succ_eq_append_getElem h, List.sum_append]
  simp [List.getD, List.getElem?_eq_getElem h]
theorem sum_take_bound {L : List Int} (B : Int) (hB : 0 ≤ B) (h : ∀ j, -B ≤ L.getD j 0 ∧ L.getD j 0 ≤ B) : ∀ j, j ≤ L.length → -(B * j) ≤ (L.take j).sum ∧ (L.take j).sum ≤ B * j
  | 0, _ => by simp
  | j + 1, hj => by
    have h1 := sum_take_bound B hB h j (by omega)
    have h2 := h j
    rw [sum_take_succ (by omega)]
    have e : B * ((j + 1 : Nat) : Int) = B * j + B := by push_cast; rw [Int.mul_add, Int.mul_one]
    rw [e]
    omega
theorem map_pairs (fs zs : List Int) (n : Nat) : (pairs fs zs n).map (·.2) = (List.range n).map (fun i => zs.getD i 0) := by simp [pairs]
/-- What MaxBack gives to the numbers that go back to the greatest: no error, and their sum. -/
theorem back_law {d : List Int} {e : Int} {z : List Int} {k s : Int} {g : List Int} (ht : may d e z) (ho : overOk d k s) (hg : ∀ x ∈ g, (Lit.int .i8 x).wf = true) :
    bErr (outDims d k s) e (gq g (count d k s)) (topOf d z k s) d = 0 ∧ (bData (outDims d k s) e (gq g (count d k s)) (topOf d z k s) d).length = z.length ∧ (bData (outDims d k s) e (gq g (count d k s)) (topOf d z k s) d).sum = gsum g (count d k s) ∧
    (∀ j, -1048576 ≤ (bData (outDims d k s) e (gq g (count d k s)) (topOf d z k s) d).getD j 0 ∧ (bData (outDims d k s) e (gq g (count d k s)) (topOf d z k s) d).getD j 0 ≤ 1048576) := by
  obtain ⟨s1, s2, s3, _, _⟩ := out_size ht ho
  have hgl : (gq g (count d k s)).length = count d k s := by simp [gq]
  have hmay : may (outDims d k s) e (gq g (count d k s)) := by
    refine ⟨by omega, by rw [hgl, s1], ht.2.2.1, fun hm => ?_⟩
    obtain ⟨i, _, hi⟩ := List.mem_map.1 hm
    have := gq_wf hg i
    omega
  have hd0 : Sh.size d ≠ 0 := by have := ht.1; omega
  have htl := (len_tops (d := d) (z := z) (k := k) (s := s)).1
  have hin : inAll (topOf d z k s) (Sh.size d) := by
    intro f hf
    obtain ⟨j, hj, rfl⟩ := List.getElem_of_mem hf
    have := topOf_in ht ho (j := j) (by rw [← htl]; exact hj)
    rw [show (topOf d z k s).getD j 0 = (topOf d z k s)[j] by simp [List.getD, List.getElem?_eq_getElem hj], ht.2.1] at this
    exact ⟨this.1, this.2.1⟩
  have herr : bErr (outDims d k s) e (gq g (count d k s)) (topOf d z k s) d = 0 := by
    unfold bErr
    rw [if_neg (by rintro (h | h); exact h hmay; exact hd0 h), if_neg (by rw [htl, hgl]; simp), if_pos hin]
  have hdat : bData (outDims d k s) e (gq g (count d k s)) (topOf d z k s) d = puts (Sh.size d).toNat (pairs (topOf d z k s) (gq g (count d k s)) (gq g (count d k s)).length) := by
    unfold bData
    rw [if_pos herr]
  refine ⟨herr, ?_, ?_, fun j => ?_⟩
  · rw [hdat, length_puts]
    have := ht.2.1
    omega
  · rw [hdat, sum_puts _ _ (fun p hp => ?_), map_pairs, hgl]
    · unfold gsum
      refine congrArg List.sum (List.map_congr_left fun i hi => ?_)
      have hi2 := List.mem_range.1 hi
      unfold gq
      rw [getD_map_range _ hi2]
    · obtain ⟨i, hi, rfl⟩ := List.mem_map.1 hp
      rw [hgl] at hi
      have hi2 := List.mem_range.1 hi
      have := hin ((topOf d z k s).getD i 0) (by rw [List.getD_eq_getElem?_getD, List.getElem?_eq_getElem (by rw [htl]; exact hi2)]; exact List.getElem_mem _)
      show ((topOf d z k s).getD i 0).toNat < (Sh.size d).toNat
      omega
  · rw [hdat]
    have hp : ∀ p ∈ pairs (topOf d z k s) (gq g (count d k s)) (gq g (count d k s)).length, -128 ≤ p.2 ∧ p.2 ≤ 128 := by
      intro p hp
      obtain ⟨i, hi, rfl⟩ := List.mem_map.1 hp
      rw [hgl] at hi
      have hi2 := List.mem_range.1 hi
      show -128 ≤ (gq g (count d k s)).getD i 0 ∧ (gq g (count d k s)).getD i 0 ≤ 128
      unfold gq
      rw [getD_map_range _ hi2]
      have := gq_wf hg i
      omega
    have := puts_bound (Sh.size d).toNat _ hp j
    rw [length_pairs] at this
    omega
end T
end Go.Proofs.Ytaijiihlkcbdhaa
