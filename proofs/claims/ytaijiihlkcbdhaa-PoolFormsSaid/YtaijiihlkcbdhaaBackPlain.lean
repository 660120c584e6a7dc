/-
  What goes back: numbers put upon noughts, one behind the other.
-/
import Derived.Test.YtaijiihlkcbdhaaPoolAvgStep
namespace Go.Proofs.Ytaijiihlkcbdhaa
open Go.RowKit
set_option linter.unusedVariables false
namespace T
/-- A number put upon a place. -/
def put (l : List Int) (p : Int × Int) : List Int := l.set p.1.toNat (l.getD p.1.toNat 0 + p.2)
def puts (n : Nat) (ps : List (Int × Int)) : List Int := ps.foldl put (List.replicate n 0)
theorem length_put (l : List Int) (p : Int × Int) : (put l p).length = l.length := by simp [put]
theorem puts_snoc (n : Nat) (ps : List (Int × Int)) (p : Int × Int) : puts n (ps ++ [p]) = put (puts n ps) p := by simp [puts, List.foldl_append]
theorem length_foldl_put : ∀ (ps : List (Int × Int)) (l : List Int), (ps.foldl put l).length = l.length
  | [], _ => rfl
  | p :: ps, l => by rw [List.foldl_cons, length_foldl_put ps, length_put]
theorem length_puts (n : Nat) (ps : List (Int × Int)) : (puts n ps).length = n := by unfold puts; rw [length_foldl_put]; simp
theorem getD_set (l : List Int) (i j : Nat) (v : Int) : (l.set i v).getD j 0 = if i = j ∧ i < l.length then v else l.getD j 0 := by
  rw [List.getD_eq_getElem?_getD, List.getD_eq_getElem?_getD, List.getElem?_set]
  by_cases h : i = j
  · subst h
    by_cases hl : i < l.length
    · simp [hl]
    · simp [hl]
  · simp [h]
theorem getD_put (l : List Int) (p : Int × Int) (j : Nat) : (put l p).getD j 0 = l.getD j 0 + (if p.1.toNat = j ∧ j < l.length then p.2 else 0) := by
  unfold put
  rw [getD_set]
  by_cases h : p.1.toNat = j
  · subst h
    by_cases hl : p.1.toNat < l.length
    · simp [hl]
    · simp [hl]
  · simp [h]
theorem getD_zeros (n j : Nat) : (List.replicate n (0 : Int)).getD j 0 = 0 := by
  rw [List.getD_eq_getElem?_getD, List.getElem?_replicate]
  by_cases h : j < n <;> simp [h]
/-- How great what is put can be. -/
theorem foldl_put_bound (B : Int) (hB : 0 ≤ B) : ∀ (ps : List (Int × Int)) (l : List Int) (A : Int), (∀ p ∈ ps, -B ≤ p.2 ∧ p.2 ≤ B) → (∀ j, -A ≤ l.getD j 0 ∧ l.getD j 0 ≤ A) → ∀ j, -(A + B * ps.length) ≤ (ps.foldl put l).getD j 0 ∧ (ps.foldl put l).getD j 0 ≤ A + B * ps.length
  | [], l, A, _, h, j => by simpa using h j
  | p :: ps, l, A, hp, h, j => by
    have h1 := hp p (by simp)
    have h2 := foldl_put_bound B hB ps (put l p) (A + B) (fun q hq => hp q (by simp [hq])) (fun i => by
      rw [getD_put]
      have := h i
      split <;> omega) j
    have e : B * ((p :: ps).length : Int) = B * (ps.length : Int) + B := by
      rw [List.length_cons, Int.natCast_add, Int.mul_add]
      simp
    rw [List.foldl_cons, e]
    omega
theorem puts_bound (n : Nat) (ps : List (Int × Int)) (hp : ∀ p ∈ ps, -128 ≤ p.2 ∧ p.2 ≤ 128) (j : Nat) : -(128 * (ps.length : Int)) ≤ (puts n ps).getD j 0 ∧ (puts n ps).getD j 0 ≤ 128 * (ps.length : Int) := by
  have := foldl_put_bound 128 (by omega) ps (List.replicate n 0) 0 hp (fun j => by rw [getD_zeros]; omega) j
  unfold puts
  omega
theorem puts_wf (n : Nat) (ps : List (Int × Int)) (hp : ∀ p ∈ ps, -128 ≤ p.2 ∧ p.2 ≤ 128) (hl : ps.length ≤ 1000000) : ∀ x ∈ puts n ps, (Lit.int .i32 x).wf = true := by
  intro x hx
  obtain ⟨j, hj, e⟩ := List.getElem_of_mem hx
  have := puts_bound n ps hp j
  rw [show (puts n ps).getD j 0 = x by simp [List.getD, List.getElem?_eq_getElem hj, e]] at this
  exact wf32 (by omega)
theorem sum_set : ∀ (l : List Int) (i : Nat) (v : Int), i < l.length → (l.set i (l.getD i 0 + v)).sum = l.sum + v
  | [], i, v, h => by simp at h
  | x :: l, 0, v, _ => by simp; omega
  | x :: l, i + 1, v, h => by
    have := sum_set l i v (by simpa using h)
    simp only [List.set_cons_succ, List.sum_cons, List.getD_cons_succ]
    rw [this]
    omega
theorem sum_foldl_put : ∀ (ps : List (Int × Int)) (l : List Int), (∀ p ∈ ps, p.1.toNat < l.length) → (ps.foldl put l).sum = l.sum + (ps.map (·.2)).sum
  | [], l, _ => by simp
  | p :: ps, l, h => by
    rw [List.foldl_cons, sum_foldl_put ps _ (fun q hq => by rw [length_put]; exact h q (by simp [hq]))]
    unfold put
    rw [sum_set _ _ _ (h p (by simp)), List.map_cons, List.sum_cons]
    omega
theorem sum_zeros : ∀ n : Nat, (List.replicate n (0 : Int)).sum = 0
  | 0 => rfl
  | n + 1 => by rw [List.replicate_succ, List.sum_cons, sum_zeros n]; rfl
/-- What is put adds up to what was put. -/
theorem sum_puts (n : Nat) (ps : List (Int × Int)) (h : ∀ p ∈ ps, p.1.toNat < n) : (puts n ps).sum = (ps.map (·.2)).sum := by
  unfold puts
  rw [sum_foldl_put ps _ (fun p hp => by simpa using h p hp)]
  rw [sum_zeros]
  omega
/-- The places that came, and their numbers. -/
def pairs (fs zs : List Int) (n : Nat) : List (Int × Int) := (List.range n).map (fun i => (fs.getD i 0, zs.getD i 0))
theorem pairs_succ (fs zs : List Int) (n : Nat) : pairs fs zs (n + 1) = pairs fs zs n ++ [(fs.getD n 0, zs.getD n 0)] := by simp [pairs, List.range_succ]
theorem length_pairs (fs zs : List Int) (n : Nat) : (pairs fs zs n).length = n := by simp [pairs]
theorem pairs_bound {fs zs : List Int} (h : ∀ x ∈ zs, (Lit.int .i8 x).wf = true) (n : Nat) : ∀ p ∈ pairs fs zs n, -128 ≤ p.2 ∧ p.2 ≤ 128 := by
  intro p hp
  obtain ⟨i, _, rfl⟩ := List.mem_map.1 hp
  have := getD8 h i
  show -128 ≤ zs.getD i 0 ∧ zs.getD i 0 ≤ 128
  omega
/-- Do the places lie in a row of n? -/
def inAll (fs : List Int) (n : Int) : Prop := ∀ f ∈ fs, 0 ≤ f ∧ f < n
instance (fs : List Int) (n : Int) : Decidable (inAll fs n) := by unfold inAll; infer_instance
/-- What MaxBack answers. -/
def bErr (gd : List Int) (ge : Int) (gz fs ds : List Int) : Int := if ¬ may gd ge gz ∨ Sh.size ds = 0 then 1 else if fs.length ≠ gz.length then 2 else if inAll fs (Sh.size ds) then 0 else 1
end T
end Go.Proofs.Ytaijiihlkcbdhaa
