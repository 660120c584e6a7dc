/-
  The lookers of a place, in plain lists: which they are, and that they are the windows' places turned about.
-/
import Derived.Test.YtmebchgjofpepaaPlaceTurnedPlain
namespace Go.Proofs.Ytmebchgjofpepaa
open Go.RowKit
set_option linter.unusedVariables false
namespace Lk
/-- Those of a window's places that are this place. -/
def one (n y x tgt : Int) (L : List (Int × Int × Int)) : List (Int × Int × Int) := L.flatMap (fun w => if w.1 = tgt then [(y * n + x, w.2.1, w.2.2)] else [])
def row (f : Int → Int → List (Int × Int × Int)) (n tgt y : Int) (q : Nat) : List (Int × Int × Int) := (List.range q).flatMap (fun (x : Nat) => one n y x tgt (f y x))
def all (f : Int → Int → List (Int × Int × Int)) (n tgt : Int) (p q : Nat) : List (Int × Int × Int) := (List.range p).flatMap (fun (y : Nat) => row f n tgt y q)
theorem one_nil (n y x tgt : Int) : one n y x tgt [] = [] := rfl
theorem row_zero (f : Int → Int → List (Int × Int × Int)) (n tgt y : Int) : row f n tgt y 0 = [] := rfl
theorem all_zero (f : Int → Int → List (Int × Int × Int)) (n tgt : Int) (q : Nat) : all f n tgt 0 q = [] := rfl
theorem one_snoc (n y x tgt : Int) (L : List (Int × Int × Int)) (w : Int × Int × Int) : one n y x tgt (L ++ [w]) = one n y x tgt L ++ if w.1 = tgt then [(y * n + x, w.2.1, w.2.2)] else [] := by
  simp [one]
theorem row_succ (f : Int → Int → List (Int × Int × Int)) (n tgt y : Int) (q : Nat) : row f n tgt y (q + 1) = row f n tgt y q ++ one n y q tgt (f y q) := by
  simp [row, List.range_succ]
theorem all_succ (f : Int → Int → List (Int × Int × Int)) (n tgt : Int) (p q : Nat) : all f n tgt (p + 1) q = all f n tgt p q ++ row f n tgt p q := by
  simp [all, List.range_succ]
theorem length_one (n y x tgt : Int) : ∀ L : List (Int × Int × Int), (one n y x tgt L).length ≤ L.length
  | [] => by simp [one]
  | w :: L => by
    have := length_one n y x tgt L
    have e : one n y x tgt (w :: L) = (if w.1 = tgt then [(y * n + x, w.2.1, w.2.2)] else []) ++ one n y x tgt L := rfl
    rw [e, List.length_append, List.length_cons]
    split <;> simp <;> omega
theorem length_row (f : Int → Int → List (Int × Int × Int)) (n tgt y : Int) (h : ∀ a b, (f a b).length ≤ 25) : ∀ q, (row f n tgt y q).length ≤ q * 25
  | 0 => by simp [row]
  | q + 1 => by
    have := length_row f n tgt y h q
    have := length_one n y q tgt (f y q)
    have := h y q
    rw [row_succ, List.length_append]
    omega
theorem length_all (f : Int → Int → List (Int × Int × Int)) (n tgt : Int) (h : ∀ a b, (f a b).length ≤ 25) (q : Nat) (hq : q ≤ 20) : ∀ p, (all f n tgt p q).length ≤ p * 500
  | 0 => by simp [all]
  | p + 1 => by
    have := length_all f n tgt h q hq p
    have := length_row f n tgt p h q
    rw [all_succ, List.length_append]
    omega
theorem mem_one {n y x tgt : Int} {L : List (Int × Int × Int)} {t : Int × Int × Int} : t ∈ one n y x tgt L ↔ ∃ w ∈ L, w.1 = tgt ∧ t = (y * n + x, w.2.1, w.2.2) := by
  unfold one
  rw [List.mem_flatMap]
  constructor
  · rintro ⟨w, hw, h⟩
    split at h
    · exact ⟨w, hw, ‹_›, by simpa using h⟩
    · simp at h
  · rintro ⟨w, hw, h1, h2⟩
    exact ⟨w, hw, by rw [if_pos h1]; simpa using h2⟩
theorem mem_all {f : Int → Int → List (Int × Int × Int)} {n tgt : Int} {p q : Nat} {t : Int × Int × Int} : t ∈ all f n tgt p q ↔ ∃ y x : Nat, y < p ∧ x < q ∧ ∃ w ∈ f y x, w.1 = tgt ∧ t = ((y : Int) * n + x, w.2.1, w.2.2) := by
  unfold all row
  simp only [List.mem_flatMap, List.mem_range, mem_one]
  constructor
  · rintro ⟨y, hy, x, hx, w, hw, h⟩; exact ⟨y, x, hy, hx, w, hw, h⟩
  · rintro ⟨y, x, hy, hx, w, hw, h⟩; exact ⟨y, hy, x, hx, w, hw, h⟩
/-- Rows put together are each once, where each is, and no two share. -/
theorem nodup_range {α : Type} (g : Nat → List α) : ∀ n, (∀ i, i < n → (g i).Nodup) → (∀ i j, i < j → j < n → ∀ a ∈ g i, a ∉ g j) → ((List.range n).flatMap g).Nodup
  | 0, _, _ => by simp
  | n + 1, h1, h2 => by
    rw [List.range_succ, List.flatMap_append]
    refine List.nodup_append.2 ⟨nodup_range g n (fun i hi => h1 i (by omega)) (fun i j hi hj => h2 i j hi (by omega)), by simpa using h1 n (by omega), ?_⟩
    intro a ha b hb e
    obtain ⟨i, hi, ha⟩ := List.mem_flatMap.1 ha
    rw [List.mem_range] at hi
    simp at hb
    exact h2 i n hi (by omega) a ha (e ▸ hb)
theorem flat_unique {a b c d n : Int} (hb : 0 ≤ b) (hb2 : b < n) (hd : 0 ≤ d) (hd2 : d < n) (h : a * n + b = c * n + d) : a = c ∧ b = d := by
  have h1 : (a * n + b) / n = a := by
    rw [Int.add_comm, Int.add_mul_ediv_right _ _ (by omega), Int.ediv_eq_zero_of_lt hb hb2]; omega
  have h2 : (c * n + d) / n = c := by
    rw [Int.add_comm, Int.add_mul_ediv_right _ _ (by omega), Int.ediv_eq_zero_of_lt hd hd2]; omega
  have : a = c := by rw [← h1, ← h2, h]
  subst this
  omega
/-- The rows that the windows leave. -/
def wkey (u : Int) (w : Int × Int × Int) : List Int := [u, w.1, w.2.1, w.2.2]
def lkey (u : Int) (w : Int × Int × Int) : List Int := [w.1, u, w.2.1, w.2.2]
def wins (f : Int → Int → List (Int × Int × Int)) (n : Int) (p q : Nat) : List (List Int) := (List.range p).flatMap (fun (y : Nat) => (List.range q).flatMap (fun (x : Nat) => (f y x).map (wkey ((y : Int) * n + x))))
def looks (g : Int → Int → List (Int × Int × Int)) (n : Int) (p q : Nat) : List (List Int) := (List.range p).flatMap (fun (y : Nat) => (List.range q).flatMap (fun (x : Nat) => (g y x).map (lkey ((y : Int) * n + x))))
theorem mem_wins {f : Int → Int → List (Int × Int × Int)} {n : Int} {p q : Nat} {k : List Int} : k ∈ wins f n p q ↔ ∃ y x : Nat, y < p ∧ x < q ∧ ∃ w ∈ f y x, k = wkey ((y : Int) * n + x) w := by
  unfold wins
  simp only [List.mem_flatMap, List.mem_range, List.mem_map]
  constructor
  · rintro ⟨y, hy, x, hx, w, hw, h⟩; exact ⟨y, x, hy, hx, w, hw, h.symm⟩
  · rintro ⟨y, x, hy, hx, w, hw, h⟩; exact ⟨y, hy, x, hx, w, hw, h.symm⟩
theorem mem_looks {f : Int → Int → List (Int × Int × Int)} {n : Int} {p q : Nat} {k : List Int} : k ∈ looks f n p q ↔ ∃ y x : Nat, y < p ∧ x < q ∧ ∃ w ∈ f y x, k = lkey ((y : Int) * n + x) w := by
  unfold looks
  simp only [List.mem_flatMap, List.mem_range, List.mem_map]
  constructor
  · rintro ⟨y, hy, x, hx, w, hw, h⟩; exact ⟨y, x, hy, hx, w, hw, h.symm⟩
  · rintro ⟨y, x, hy, hx, w, hw, h⟩; exact ⟨y, hy, x, hx, w, hw, h.symm⟩
theorem pair_apart {y x y2 x2 : Nat} {n : Int} (hx : (x : Int) < n) (hx2 : (x2 : Int) < n) (h : (y : Int) * n + x = (y2 : Int) * n + x2) : y = y2 ∧ x = x2 := by
  have := flat_unique (by omega) hx (by omega) hx2 h
  omega
theorem nodup_wins {f : Int → Int → List (Int × Int × Int)} {n : Int} {p q : Nat} (hq : (q : Int) ≤ n) (hf : ∀ y x, ((f y x).map (·.2)).Nodup) : (wins f n p q).Nodup := by
  refine nodup_range _ _ (fun y hy => nodup_range _ _ (fun x hx => ?_) ?_) ?_
  · have := hf y x
    rw [List.Nodup, List.pairwise_map] at this ⊢
    exact this.imp fun hne e => hne (by simp [wkey] at e; exact Prod.ext e.2.1 e.2.2)
  · intro x x2 h1 h2 k hk hk2
    obtain ⟨w, _, rfl⟩ := List.mem_map.1 hk
    obtain ⟨w2, _, e⟩ := List.mem_map.1 hk2
    simp [wkey] at e
    omega
  · intro y y2 h1 h2 k hk hk2
    obtain ⟨x, hx, hk⟩ := List.mem_flatMap.1 hk
    obtain ⟨x2, hx2, hk2⟩ := List.mem_flatMap.1 hk2
    rw [List.mem_range] at hx hx2
    obtain ⟨w, _, rfl⟩ := List.mem_map.1 hk
    obtain ⟨w2, _, e⟩ := List.mem_map.1 hk2
    simp only [wkey, List.cons.injEq] at e
    have := pair_apart (show (x2 : Int) < n by omega) (show (x : Int) < n by omega) e.1
    omega
theorem nodup_looks {g : Int → Int → List (Int × Int × Int)} {n : Int} {p q : Nat} (hq : (q : Int) ≤ n) (hg : ∀ (y x : Nat), y < p → x < q → (g y x).Nodup) : (looks g n p q).Nodup := by
  refine nodup_range _ _ (fun y hy => nodup_range _ _ (fun x hx => ?_) ?_) ?_
  · have := hg y x hy hx
    rw [List.Nodup] at this
    rw [List.Nodup, List.pairwise_map]
    exact this.imp fun hne e => hne (by simp [lkey] at e; exact Prod.ext e.1 (Prod.ext e.2.1 e.2.2))
  · intro x x2 h1 h2 k hk hk2
    obtain ⟨w, _, rfl⟩ := List.mem_map.1 hk
    obtain ⟨w2, _, e⟩ := List.mem_map.1 hk2
    simp [lkey] at e
    omega
  · intro y y2 h1 h2 k hk hk2
    obtain ⟨x, hx, hk⟩ := List.mem_flatMap.1 hk
    obtain ⟨x2, hx2, hk2⟩ := List.mem_flatMap.1 hk2
    rw [List.mem_range] at hx hx2
    obtain ⟨w, _, rfl⟩ := List.mem_map.1 hk
    obtain ⟨w2, _, e⟩ := List.mem_map.1 hk2
    simp only [lkey, List.cons.injEq] at e
    have := pair_apart (show (x2 : Int) < n by omega) (show (x : Int) < n by omega) e.2.1
    omega
theorem nodup_all {f : Int → Int → List (Int × Int × Int)} {n tgt : Int} {p q : Nat} (hq : (q : Int) ≤ n) (hf : ∀ y x, ((f y x).map (·.2)).Nodup) : (all f n tgt p q).Nodup := by
  refine nodup_range _ _ (fun y hy => nodup_range _ _ (fun x hx => ?_) ?_) ?_
  · have := hf y x
    unfold one
    generalize f y x = L at *
    induction L with
    | nil => simp
    | cons w L ih =>
      rw [List.map_cons, List.nodup_cons] at this
      have ih := ih this.2
      rw [List.flatMap_cons]
      refine List.nodup_append.2 ⟨by split <;> simp, ih, ?_⟩
      intro a ha b hb e
      split at ha
      · rename_i hw
        simp at ha
        obtain ⟨v, hv, hb⟩ := mem_one.1 hb
        rw [← e, ha] at hb
        obtain ⟨_, hb⟩ := hb
        simp only [Prod.mk.injEq] at hb
        exact this.1 (List.mem_map.2 ⟨v, hv, Prod.ext hb.2.1.symm hb.2.2.symm⟩)
      · simp at ha
  · intro x x2 h1 h2 k hk hk2
    obtain ⟨w, _, _, rfl⟩ := mem_one.1 hk
    obtain ⟨w2, _, _, e⟩ := mem_one.1 hk2
    simp only [Prod.mk.injEq] at e
    omega
  · intro y y2 h1 h2 k hk hk2
    obtain ⟨x, hx, hk⟩ := List.mem_flatMap.1 hk
    obtain ⟨x2, hx2, hk2⟩ := List.mem_flatMap.1 hk2
    rw [List.mem_range] at hx hx2
    obtain ⟨w, _, _, rfl⟩ := mem_one.1 hk
    obtain ⟨w2, _, _, e⟩ := mem_one.1 hk2
    simp only [Prod.mk.injEq] at e
    have := pair_apart (show (x : Int) < n by omega) (show (x2 : Int) < n by omega) e.1
    omega
/-- The lookers of all places are the places of all windows. -/
theorem both {f g : Int → Int → List (Int × Int × Int)} {n cols : Int} {p q R C : Nat} (hC : (C : Int) = cols) (hg : ∀ (r c : Nat), r < R → c < C → g r c = all f n ((r : Int) * cols + c) p q)
    (hf : ∀ (y x : Nat), y < p → x < q → ∀ w ∈ f y x, ∃ r c : Nat, r < R ∧ c < C ∧ w.1 = (r : Int) * cols + c) (k : List Int) : k ∈ looks g cols R C ↔ k ∈ wins f n p q := by
  rw [mem_looks, mem_wins]
  constructor
  · rintro ⟨r, c, hr, hc, w, hw, rfl⟩
    rw [hg r c hr hc] at hw
    obtain ⟨y, x, hy, hx, v, hv, e1, rfl⟩ := mem_all.1 hw
    exact ⟨y, x, hy, hx, v, hv, by simp [lkey, wkey, e1]⟩
  · rintro ⟨y, x, hy, hx, w, hw, rfl⟩
    obtain ⟨r, c, hr, hc, e⟩ := hf y x hy hx w hw
    refine ⟨r, c, hr, hc, ((y : Int) * n + x, w.2.1, w.2.2), ?_, by simp [lkey, wkey, e]⟩
    rw [hg r c hr hc]
    exact mem_all.2 ⟨y, x, hy, hx, w, hw, e, rfl⟩
theorem length_of_mem {l m : List (List Int)} (hl : l.Nodup) (hm : m.Nodup) (h : ∀ k, k ∈ l ↔ k ∈ m) : l.length = m.length := by
  refine (List.perm_iff_count.2 fun k => ?_).length_eq
  rw [hl.count, hm.count]
  by_cases hk : k ∈ l
  · rw [if_pos hk, if_pos ((h k).1 hk)]
  · rw [if_neg hk, if_neg (fun g => hk ((h k).2 g))]
end Lk
/-- The windows that look at a place, or none. -/
def lookOk (rows cols r c k s p : Int) : Prop := 1 ≤ outW rows k s p ∧ 1 ≤ outW cols k s p ∧ 0 ≤ r ∧ r ≤ rows - 1 ∧ 0 ≤ c ∧ c ≤ cols - 1
instance (rows cols r c k s p : Int) : Decidable (lookOk rows cols r c k s p) := by unfold lookOk; infer_instance
def winF (rows cols k s p : Int) (y x : Int) : List (Int × Int × Int) := Wn.win rows cols (y * s - p) (x * s - p) k.toNat k.toNat
def lookW (rows cols r c k s p : Int) : List (Int × Int × Int) :=
  if lookOk rows cols r c k s p then Lk.all (winF rows cols k s p) (outW cols k s p) (r * cols + c) (outW rows k s p).toNat (outW cols k s p).toNat else []
theorem winF_small {rows cols k s p : Int} (hk : k ≤ 5) (a b : Int) : (winF rows cols k s p a b).length ≤ 25 := by
  have := Wn.length_win rows cols (a * s - p) (b * s - p) k.toNat k.toNat
  have := Nat.mul_le_mul (show k.toNat ≤ 5 by omega) (show k.toNat ≤ 5 by omega)
  unfold winF
  omega
end Go.Proofs.Ytmebchgjofpepaa
