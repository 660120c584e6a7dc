/-
  The reference's greatest, in plain numbers; and what stands while it appends.
-/
import Derived.Test.YtaijiihlkcbdhaaRefWindow
import Derived.Test.YtaijiihlkcbdhaaPoolAvgPlain
namespace Go.Proofs.Ytaijiihlkcbdhaa
open Go.RowKit
set_option linter.unusedVariables false
namespace T
/-- The greatest as the reference finds it: from none. -/
def rbest (D : List Int) (L : List Int) : Int := L.foldl (fun b a => if b < 0 ∨ D.getD b.toNat 0 < D.getD a.toNat 0 then a else b) (-1)
theorem rbest_snoc (D : List Int) (a : Int) (L : List Int) : rbest D (L ++ [a]) = if rbest D L < 0 ∨ D.getD (rbest D L).toNat 0 < D.getD a.toNat 0 then a else rbest D L := by simp [rbest]
theorem rbest_fold (D : List Int) : ∀ (L : List Int) (b : Int), 0 ≤ b → (∀ x ∈ L, 0 ≤ x) → L.foldl (fun b a => if b < 0 ∨ D.getD b.toNat 0 < D.getD a.toNat 0 then a else b) b = best D b L
  | [], b, _, _ => rfl
  | a :: L, b, hb, h => by
    have ha := h a (by simp)
    have e : best D b (a :: L) = best D (if D.getD b.toNat 0 < D.getD a.toNat 0 then a else b) L := rfl
    rw [e, List.foldl_cons]
    by_cases c : D.getD b.toNat 0 < D.getD a.toNat 0
    · rw [if_pos (Or.inr c), if_pos c]
      exact rbest_fold D L a ha fun x hx => h x (by simp [hx])
    · rw [if_neg (by rintro (g | g); omega; exact c g), if_neg c]
      exact rbest_fold D L b hb fun x hx => h x (by simp [hx])
theorem rbest_eq (D : List Int) (L : List Int) (h0 : 0 < L.length) (h : ∀ x ∈ L, 0 ≤ x) : rbest D L = best D (L.getD 0 0) L := by
  match L, h0 with
  | a :: L, _ =>
    have ha := h a (by simp)
    have e : best D ((a :: L).getD 0 0) (a :: L) = best D (if D.getD a.toNat 0 < D.getD a.toNat 0 then a else a) L := rfl
    rw [e]
    unfold rbest
    rw [List.foldl_cons, if_pos (Or.inl (by omega))]
    simp only [ite_self]
    exact rbest_fold D L a ha fun x hx => h x (by simp [hx])
theorem rbest_in (D : List Int) (B : Int) : ∀ (L : List Int), (∀ x ∈ L, 0 ≤ x ∧ x < B) → 0 < L.length → 0 ≤ rbest D L ∧ rbest D L < B := by
  intro L h h0
  rw [rbest_eq D L h0 fun x hx => (h x hx).1]
  rcases best_mem D L (L.getD 0 0) with e | e
  · rw [e]
    exact h _ (by simp [List.getD, List.getElem?_eq_getElem h0])
  · exact h _ e
theorem rbest_any (D : List Int) (B : Int) (L : List Int) (h : ∀ x ∈ L, 0 ≤ x ∧ x < B) : rbest D L = -1 ∨ (0 ≤ rbest D L ∧ rbest D L < B) := by
  by_cases h0 : 0 < L.length
  · exact Or.inr (rbest_in D B L h h0)
  · left
    have : L = [] := List.eq_nil_of_length_eq_zero (by omega)
    subst this
    rfl
theorem win_eq {R C s : Int} {K P Q j : Nat} (hP : outW R K s 0 = P) (hQ : outW C K s 0 = Q) (hP0 : 0 < P) (hQ0 : 0 < Q) :
    winW R C ((j % (P * Q) / Q : Nat) : Int) ((j % (P * Q) % Q : Nat) : Int) K s 0 = Wn.win R C (((j % (P * Q) / Q : Nat) : Int) * s) (((j % (P * Q) % Q : Nat) : Int) * s) K K := by
  have hM : 0 < P * Q := Nat.mul_pos hP0 hQ0
  have hi : j % (P * Q) < P * Q := Nat.mod_lt _ hM
  have hy : j % (P * Q) / Q < P := Nat.div_lt_of_lt_mul (by rw [Nat.mul_comm Q P]; exact hi)
  have hx : j % (P * Q) % Q < Q := Nat.mod_lt _ hQ0
  have hok : winOk R C ((j % (P * Q) / Q : Nat) : Int) ((j % (P * Q) % Q : Nat) : Int) K s 0 := by
    unfold winOk
    rw [hP, hQ]
    refine ⟨by omega, by omega, Int.natCast_nonneg _, ?_, Int.natCast_nonneg _, ?_⟩
    · generalize j % (P * Q) / Q = y at *; omega
    · generalize j % (P * Q) % Q = x at *; omega
  unfold winW
  rw [if_pos hok, Int.sub_zero, Int.sub_zero, Int.toNat_natCast]
/-- A window's elements: the places, put behind the plane's head. -/
theorem wix_win {R C s : Int} {K P Q j : Nat} (hP : outW R K s 0 = P) (hQ : outW C K s 0 = Q) (hP0 : 0 < P) (hQ0 : 0 < Q) :
    wix R C K s P Q j = (Wn.win R C (((j % (P * Q) / Q : Nat) : Int) * s) (((j % (P * Q) % Q : Nat) : Int) * s) K K).map (fun t => ((j / (P * Q) : Nat) : Int) * R * C + t.1) := by
  rw [← win_eq hP hQ hP0 hQ0]
  rfl
/-- All that the reference asks of one window. -/
theorem rwindow {d : List Int} {e : Int} {z : List Int} {K : Nat} {s : Int} (ht : may d e z) (ho : overOk d K s) {j : Nat} (hj : j < count d K s) :
    ∃ (A0 A1 : Int) (N Y X : Nat) (W : List (Int × Int × Int)), Sh.digits (Sh.strides (outDims d K s)) j = [A0, A1, (Y : Int), (X : Int)] ∧ A0 * d.getD 1 0 + A1 = N ∧ 0 ≤ A0 * d.getD 1 0 ∧ A0 * d.getD 1 0 ≤ 8192 ∧ 0 ≤ A1 ∧ A1 ≤ 8192 ∧
      0 ≤ (N : Int) * d.getD 2 0 ∧ (N : Int) * d.getD 2 0 ≤ 8192 ∧ 0 ≤ (N : Int) * d.getD 2 0 * d.getD 3 0 ∧ (N : Int) * d.getD 2 0 * d.getD 3 0 ≤ 8192 ∧
      Y < rowsOf d K s ∧ X < colsOf d K s ∧ Wn.win (d.getD 2 0) (d.getD 3 0) ((Y : Int) * s) ((X : Int) * s) K K = W ∧ wix (d.getD 2 0) (d.getD 3 0) K s (rowsOf d K s) (colsOf d K s) j = W.map (fun t => (N : Int) * d.getD 2 0 * d.getD 3 0 + t.1) ∧
      (∀ x ∈ wix (d.getD 2 0) (d.getD 3 0) K s (rowsOf d K s) (colsOf d K s) j, 0 ≤ x ∧ x < z.length) ∧ W.length = K * K ∧ ∀ t ∈ W, 0 ≤ t.1 ∧ t.1 ≤ 8192 := by
  obtain ⟨A0, A1, g1, g2, g3, g4, g5, g6, g7, g8⟩ := at_out ht ho hj
  obtain ⟨f1, f2, f3, f4, f5, f6, f7, f8, f9, f10, f11, f12, f13⟩ := facts ht ho
  have hM : 0 < rowsOf d K s * colsOf d K s := Nat.mul_pos f3 f4
  have hn : j / (rowsOf d K s * colsOf d K s) < planes d := Nat.div_lt_of_lt_mul (by rw [Nat.mul_comm]; exact hj)
  have hi : j % (rowsOf d K s * colsOf d K s) < rowsOf d K s * colsOf d K s := Nat.mod_lt _ hM
  have hw := wix_win (s := s) (K := K) (j := j) f1 f2 f3 f4
  have hin : ∀ x ∈ wix (d.getD 2 0) (d.getD 3 0) K s (rowsOf d K s) (colsOf d K s) j, 0 ≤ x ∧ x < z.length := fun x hx => by
    have := ix_in (R := d.getD 2 0) (C := d.getD 3 0) (k := K) (s := s) (Q := colsOf d K s) (i := j % (rowsOf d K s * colsOf d K s)) f12 f13 hn x hx
    rw [f8]
    exact this
  have hlen := length_wix (s := s) (k := K) (a := j) f1 f2 f3 f4
  have n0 : 0 ≤ ((j / (rowsOf d K s * colsOf d K s) : Nat) : Int) * d.getD 2 0 := Int.mul_nonneg (Int.natCast_nonneg _) (by omega)
  have n1 := Int.mul_le_mul_of_nonneg_left f13 n0
  rw [Int.mul_one] at n1
  have n2 : 0 ≤ ((j / (rowsOf d K s * colsOf d K s) : Nat) : Int) * d.getD 2 0 * d.getD 3 0 := by omega
  have n3 : ((j / (rowsOf d K s * colsOf d K s) : Nat) : Int) * d.getD 2 0 * d.getD 3 0 ≤ 8192 := by
    have h1 : ((j / (rowsOf d K s * colsOf d K s) : Nat) : Int) ≤ planes d := Int.ofNat_le.2 (Nat.le_of_lt hn)
    have h2 := Int.mul_le_mul_of_nonneg_right h1 (show 0 ≤ d.getD 2 0 by omega)
    have h3 := Int.mul_le_mul_of_nonneg_right h2 (show 0 ≤ d.getD 3 0 by omega)
    omega
  refine ⟨A0, A1, _, _, _, _, g1, g2, g7, g8, g5, g6, n0, by omega, n2, n3, Nat.div_lt_of_lt_mul (by rw [Nat.mul_comm (colsOf d K s)]; exact hi), Nat.mod_lt _ f4, rfl, hw, hin, ?_, fun t ht' => ?_⟩
  · rw [hw, List.length_map] at hlen
    exact hlen
  · rw [← win_eq f1 f2 f3 f4] at ht'
    have := winW_bound ht'
    omega
end T
/-- What stands while the greatest are appended. -/
structure RSt (w5 W : World) (B bt bx b1 oo : Nat) (od oe cd xd xb v : Value) (n : Nat) (xs : List Int) (u : Value) (m : Nat) (ys : List Int) : Prop where
  two : Two B W v n xs u m ys
  ho : W.heap[bt]? = some (.cells #[od, oe, cd] 25 (0, 0))
  hx : W.cell? ⟨bx, 2, none⟩ = some xd
  he : W.cell? ⟨b1, oo, none⟩ = some xb
  below : Below bt w5 W
variable {w5 W W' : World} {B bt bx b1 oo : Nat} {od oe cd xd xb v : Value} {n : Nat} {xs : List Int} {u : Value} {m : Nat} {ys : List Int}
theorem RSt.alloc (h : RSt w5 W B bt bx b1 oo od oe cd xd xb v n xs u m ys) (hB : bt < B) (o : Obj) : RSt w5 (W.alloc o) B bt bx b1 oo od oe cd xd xb v n xs u m ys :=
  ⟨h.two.alloc o, blk_alloc h.ho o, (below_alloc W o).cell_of h.hx, (below_alloc W o).cell_of h.he, h.below.alloc (by have := h.two.base; omega) o⟩
theorem RSt.one (h : RSt w5 W B bt bx b1 oo od oe cd xd xb v n xs u m ys) (hB : bt < B) (hbx : bx < B) (hb1 : b1 < B) {g c : Nat} {x : Int} (hown : W'.ownsRow B 37 1 (.slice (some ⟨g, 0, none⟩) (n + 1) c) (n + 1) (xs.map (Value.int .i8) ++ [.int .i8 x])) (hg : W.grownBy W' v.ownBlock) (hat : v.ownBlock = some g ∨ g = W.heap.size) :
    RSt w5 W' B bt bx b1 oo od oe cd xd xb (.slice (some ⟨g, 0, none⟩) (n + 1) c) (n + 1) (xs ++ [x]) u m ys := by
  have hr : ∀ k, v.ownBlock = some k → B ≤ k := fun k e => (h.two.fst.lt k e).1
  have hn : ∀ k, k < B → v.ownBlock = some k → False := fun k hk e => by have := hr k e; omega
  exact ⟨h.two.one hown hg hat, blk_grown hg h.ho (hn _ hB), grown_cell hg h.hx (hn _ hbx), grown_cell hg h.he (hn _ hb1), h.below.grown hg (by have := h.two.base; omega) (fun k e => by have := hr k e; omega)⟩
theorem RSt.stored (h : RSt w5 W B bt bx b1 oo od oe cd xd xb v n xs u m ys) (hB : bt < B) :
    (W.setCell ⟨bt, 2, none⟩ v).heap[bt]? = some (.cells #[od, oe, v] 25 (0, 0)) ∧ Two B (W.setCell ⟨bt, 2, none⟩ v) v n xs u m ys ∧ Below bt w5 (W.setCell ⟨bt, 2, none⟩ v) := by
  have nv : v.ownBlock ≠ some bt := fun e => by have := (h.two.fst.lt _ e).1; omega
  have nu : u.ownBlock ≠ some bt := fun e => by have := (h.two.snd.lt _ e).1; omega
  exact ⟨three_setCell h.ho, ⟨ownsRow_setCell_other h.two.fst nv _, ownsRow_setCell_other h.two.snd nu _, h.two.apart, by rw [World.size_setCell]; exact h.two.base⟩, h.below.setCell (p := ⟨bt, 2, none⟩) (Nat.le_refl _) _⟩
theorem RSt.cells (h : RSt w5 W B bt bx b1 oo od oe cd xd xb v n xs u m ys) : W.cell? ⟨bt, 2, none⟩ = some cd ∧ W.cell? ⟨bx, 2, none⟩ = some xd ∧ W.cell? ⟨b1, oo, none⟩ = some xb :=
  ⟨by have := h.ho; simp [World.cell?, this], h.hx, h.he⟩
end Go.Proofs.Ytaijiihlkcbdhaa
