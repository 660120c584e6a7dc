/-
  The walks of a window's places.
-/
import Derived.Test.YtaijiihlkcbdhaaPlaceTo
import Derived.Test.YtaijiihlkcbdhaaShapeOut
namespace Go.Proofs.Ytaijiihlkcbdhaa
open Go.RowKit Fl
set_option linter.unusedVariables false
def plane (rows cols k s p : Int) : Value := .agg #[.int .i64 rows, .int .i64 cols, .int .i64 k, .int .i64 s, .int .i64 p]
/-- The cells of a plane that was just laid down. -/
theorem planeCells (rows cols k s p : Int) (w : World) :
    (w.alloc (Obj.cells #[.int .i64 rows, .int .i64 cols, .int .i64 k, .int .i64 s, .int .i64 p] 77)).cell? ⟨w.heap.size, 0, none⟩ = some (.int .i64 rows) ∧
    (w.alloc (Obj.cells #[.int .i64 rows, .int .i64 cols, .int .i64 k, .int .i64 s, .int .i64 p] 77)).cell? ⟨w.heap.size, 1, none⟩ = some (.int .i64 cols) ∧
    (w.alloc (Obj.cells #[.int .i64 rows, .int .i64 cols, .int .i64 k, .int .i64 s, .int .i64 p] 77)).cell? ⟨w.heap.size, 2, none⟩ = some (.int .i64 k) ∧
    (w.alloc (Obj.cells #[.int .i64 rows, .int .i64 cols, .int .i64 k, .int .i64 s, .int .i64 p] 77)).cell? ⟨w.heap.size, 3, none⟩ = some (.int .i64 s) ∧
    (w.alloc (Obj.cells #[.int .i64 rows, .int .i64 cols, .int .i64 k, .int .i64 s, .int .i64 p] 77)).cell? ⟨w.heap.size, 4, none⟩ = some (.int .i64 p) := by
  have h : ∀ j : Nat, j < 5 → (w.alloc (Obj.cells #[.int .i64 rows, .int .i64 cols, .int .i64 k, .int .i64 s, .int .i64 p] 77)).cell? ⟨w.heap.size, j, none⟩ = #[Value.int .i64 rows, .int .i64 cols, .int .i64 k, .int .i64 s, .int .i64 p][j]? := fun j hj => by
    have := heap_alloc_new w (Obj.cells #[.int .i64 rows, .int .i64 cols, .int .i64 k, .int .i64 s, .int .i64 p] 77)
    unfold World.cell?
    simp only [this]
    rfl
  exact ⟨h 0 (by omega), h 1 (by omega), h 2 (by omega), h 3 (by omega), h 4 (by omega)⟩
theorem out_still (n k s p : Int) (w : World) : Calls Try.prog 45 #[.int .i64 n, .int .i64 k, .int .i64 s, .int .i64 p] w fun e w' => e = .returned (.int .i64 (outW n k s p)) ∧ w' = w := (out_any n k s p w).mono fun _ _ ⟨a, b⟩ => ⟨a, b.symm⟩
set_option maxHeartbeats 1000000 in
theorem planeOut_any (rows cols k s p : Int) (w : World) : Calls Try.prog 51 #[plane rows cols k s p] w fun e w' => e = .returned (.tuple #[.int .i64 (outW rows k s p), .int .i64 (outW cols k s p)]) ∧ Below w.heap.size w w' := by
  have hb := Lib.hid (below_alloc w (Obj.cells #[.int .i64 rows, .int .i64 cols, .int .i64 k, .int .i64 s, .int .i64 p] 77))
  obtain ⟨f0, f1, f2, f3, f4⟩ := planeCells rows cols k s p w
  unfold plane
  go_enter Try.func51, Try.ntmps51
  go_wp2
  generalize w.alloc (Obj.cells #[.int .i64 rows, .int .i64 cols, .int .i64 k, .int .i64 s, .int .i64 p] 77) = w1 at *
  go_quiet ((go_at_call 45; exact Calls.quiet_of_same (out_still _ _ _ _ _)))
  go_wp2
  go_ret2
  exact ⟨rfl, hb.out.draws _⟩

namespace Wn
/-- One place of a window, if it lies in the plane. -/
def cell (rows cols y x : Int) (i j : Nat) : List (Int × Int × Int) :=
  if (0 ≤ y + i ∧ y + i ≤ rows - 1) ∧ (0 ≤ x + j ∧ x + j ≤ cols - 1) then [((y + i) * cols + (x + j), (i : Int), (j : Int))] else []
def row (rows cols y x : Int) (i n : Nat) : List (Int × Int × Int) := (List.range n).flatMap (cell rows cols y x i)
def win (rows cols y x : Int) (n k : Nat) : List (Int × Int × Int) := (List.range n).flatMap (fun i => row rows cols y x i k)
theorem row_succ (rows cols y x : Int) (i n : Nat) : row rows cols y x i (n + 1) = row rows cols y x i n ++ cell rows cols y x i n := by
  simp [row, List.range_succ]
theorem win_succ (rows cols y x : Int) (n k : Nat) : win rows cols y x (n + 1) k = win rows cols y x n k ++ row rows cols y x n k := by
  simp [win, List.range_succ]
theorem length_cell (rows cols y x : Int) (i j : Nat) : (cell rows cols y x i j).length ≤ 1 := by
  unfold cell; split <;> simp
theorem length_row (rows cols y x : Int) (i : Nat) : ∀ n, (row rows cols y x i n).length ≤ n
  | 0 => by simp [row]
  | n + 1 => by
    rw [row_succ, List.length_append]
    have := length_row rows cols y x i n
    have := length_cell rows cols y x i n
    omega
theorem length_win (rows cols y x : Int) (k : Nat) : ∀ n, (win rows cols y x n k).length ≤ n * k
  | 0 => by simp [win]
  | n + 1 => by
    rw [win_succ, List.length_append, Nat.succ_mul]
    have := length_win rows cols y x k n
    have := length_row rows cols y x n k
    omega
/-- Three cells of an element. -/
def trip (t : Int × Int × Int) : List Value := [.int .i64 t.1, .int .i64 t.2.1, .int .i64 t.2.2]
def flat (L : List (Int × Int × Int)) : List Value := L.flatMap trip
theorem flat_append (L M : List (Int × Int × Int)) : flat (L ++ M) = flat L ++ flat M := by simp [flat]
theorem length_flat (L : List (Int × Int × Int)) : (flat L).length = L.length * 3 := by
  induction L with
  | nil => rfl
  | cons t L ih => simp [flat, trip] at ih ⊢; omega
theorem flat_get : ∀ (L : List (Int × Int × Int)) (j : Nat), j < L.length →
    (flat L)[3 * j]? = some (.int .i64 (L.getD j (0, 0, 0)).1) ∧ (flat L)[3 * j + 1]? = some (.int .i64 (L.getD j (0, 0, 0)).2.1) ∧ (flat L)[3 * j + 2]? = some (.int .i64 (L.getD j (0, 0, 0)).2.2)
  | [], j, h => by simp at h
  | t :: L, 0, h => by simp [flat, trip]
  | t :: L, j + 1, h => by
    obtain ⟨h1, h2, h3⟩ := flat_get L j (by simpa using h)
    rw [show flat (t :: L) = trip t ++ flat L from rfl, show 3 * (j + 1) = 3 * j + 3 by omega]
    have hl : (trip t).length = 3 := rfl
    refine ⟨?_, ?_, ?_⟩
    · rw [List.getElem?_append_right (by omega), hl, show 3 * j + 3 - 3 = 3 * j by omega, h1]; rfl
    · rw [List.getElem?_append_right (by omega), hl, show 3 * j + 3 + 1 - 3 = 3 * j + 1 by omega, h2]; rfl
    · rw [List.getElem?_append_right (by omega), hl, show 3 * j + 3 + 2 - 3 = 3 * j + 2 by omega, h3]; rfl
theorem app {w' : World} {base e g c' : Nat} {L M : List (Int × Int × Int)} {t : Int × Int × Int} (h : w'.ownsRow base e 3 (.slice (some ⟨g, 0, none⟩) (L.length + 1) c') (L.length + 1) (flat L ++ trip t)) (hm : M = L ++ [t]) :
    w'.ownsRow base e 3 (.slice (some ⟨g, 0, none⟩) (L.length + 1) c') M.length (flat M) := by
  subst hm
  rw [flat_append, List.length_append]
  exact h
theorem new3 (w : World) (a b c : Value) (t : TypeId) : ∀ j u, [a, b, c][j]? = some u → (w.alloc (.cells #[a, b, c] t)).cell? ((⟨w.heap.size, 0, none⟩ : Addr).add j) = some u := by
  intro j u hu
  rcases j with _ | _ | _ | j
  · rw [← hu]; show (w.alloc (.cells #[a, b, c] t)).cell? ⟨w.heap.size, 0, none⟩ = _; rw [World.cell?_alloc_new]; rfl
  · rw [← hu]; show (w.alloc (.cells #[a, b, c] t)).cell? ⟨w.heap.size, 1, none⟩ = _; rw [World.cell?_alloc_new]; rfl
  · rw [← hu]; show (w.alloc (.cells #[a, b, c] t)).cell? ⟨w.heap.size, 2, none⟩ = _; rw [World.cell?_alloc_new]; rfl
  · simp at hu
end Wn
/-- A row of windows' places that lies in the memory. -/
def WinAt (w : World) (a : Option Addr) (n : Nat) (L : List (Int × Int × Int)) : Prop :=
  L.length = n ∧ (n = 0 ∨ ∃ g, a = some ⟨g, 0, none⟩ ∧ g < w.heap.size ∧ ∀ j, j < n → w.cell? ⟨g, 3 * j, none⟩ = some (.int .i64 (L.getD j (0, 0, 0)).1) ∧ w.cell? ⟨g, 3 * j + 1, none⟩ = some (.int .i64 (L.getD j (0, 0, 0)).2.1) ∧ w.cell? ⟨g, 3 * j + 2, none⟩ = some (.int .i64 (L.getD j (0, 0, 0)).2.2))
def GivesWin (L : List (Int × Int × Int)) (w : World) : Ending → World → Prop := fun e w' => ∃ a n c, e = .returned (.slice a n c) ∧ WinAt w' a n L ∧ Below w.heap.size w w'
/-- .. and its block is new. -/
def GivesWinF (L : List (Int × Int × Int)) (w : World) : Ending → World → Prop := fun e w' => ∃ a n c, e = .returned (.slice a n c) ∧ WinAt w' a n L ∧ Below w.heap.size w w' ∧ ∀ x, a = some x → w.heap.size ≤ x.block
theorem WinAt.owned {w : World} {base e : Nat} {v : Value} {L : List (Int × Int × Int)} (h : w.ownsRow base e 3 v L.length (Wn.flat L)) : ∃ a n c, v = .slice a n c ∧ WinAt w a n L := by
  rcases h.2 with ⟨h1, h2⟩ | ⟨g, cap, cur, h1, _⟩
  · exact ⟨_, _, _, h1, h2, Or.inl rfl⟩
  · refine ⟨_, _, _, h1, rfl, Or.inr ⟨g, rfl, (h.lt g (by rw [h1]; rfl)).2, fun j hj => ?_⟩⟩
    rw [h1] at h
    obtain ⟨g1, g2, g3⟩ := Wn.flat_get L j hj
    exact ⟨(h.cellAt _ (by omega)).trans g1, (h.cellAt _ (by omega)).trans g2, (h.cellAt _ (by omega)).trans g3⟩
theorem infoWindow : (Try.prog.info? 68).map (fun i => (i.zero, i.size, i.bytes)) = some (some (.agg #[.int .i64 0, .int .i64 0, .int .i64 0]), 3, 24) := by kernel_rfl

theorem of_still (r c : Int) (w : World) (h : ofOk r c) : Calls Try.prog 54 #[.int .i64 r, .int .i64 c] w fun e w' => e = .returned (.complex .f64 (floatOfInt .f64 r) (floatOfInt .f64 c)) ∧ w' = w := (of_yes r c w h).mono fun _ _ ⟨a, b⟩ => ⟨a, b.symm⟩
set_option maxHeartbeats 8000000 in
theorem planeWindowF_any (rows cols s p r c : Int) (K : Nat) (w : World) (hr1 : 1 ≤ rows) (hr2 : rows ≤ 16) (hc1 : 1 ≤ cols) (hc2 : cols ≤ 16) (hk1 : 1 ≤ K) (hk2 : K ≤ 5) (hs1 : 1 ≤ s) (hs2 : s ≤ 4) (hp1 : 0 ≤ p) (hp2 : p ≤ 5) (h0 : 0 ≤ r) (h1 : r ≤ 20) (h2 : 0 ≤ c) (h3 : c ≤ 20) :
    Calls Try.prog 53 #[plane rows cols (K : Int) s p, .int .i64 r, .int .i64 c] w (GivesWinF (Wn.win rows cols (r * s - p) (c * s - p) K K) w) := by
  have hb := Lib.hid (below_alloc w (Obj.cells #[.int .i64 rows, .int .i64 cols, .int .i64 K, .int .i64 s, .int .i64 p] 77))
  obtain ⟨f0, f1, f2, f3, f4⟩ := planeCells rows cols K s p w
  have ok1 : ofOk s 0 := ⟨by omega, by omega, by omega, by omega⟩
  have ok2 : ofOk r c := ⟨by omega, by omega, by omega, by omega⟩
  have ok3 : ofOk p p := ⟨by omega, by omega, by omega, by omega⟩
  obtain ⟨m1, m2, q1, q2, e1, e2, k1, k2⟩ := corner_arith r c s p w (FI.ofInt s (by omega)) (FI.ofInt 0 (by omega)) (FI.ofInt r (by omega)) (FI.ofInt c (by omega)) (FI.ofInt p (by omega)) (FI.ofInt p (by omega)) (by omega) (by omega) (by omega) (by omega)
  have hm : ∀ t w, (binOp .mul t (.complex .f64 (floatOfInt .f64 s) (floatOfInt .f64 0)) (.complex .f64 (floatOfInt .f64 r) (floatOfInt .f64 c))).run Try.prog w = .ok (.complex .f64 m1 m2) w := fun t w => run_complex_mul w t _ _ _ _ m1 m2 e1
  have hs : ∀ t w, (binOp .sub t (.complex .f64 m1 m2) (.complex .f64 (floatOfInt .f64 p) (floatOfInt .f64 p))).run Try.prog w = .ok (.complex .f64 q1 q2) w := fun t w => run_complex_sum w .sub (Or.inr rfl) t .f64 m1 m2 _ _ q1 q2 e2
  have bd : ∀ u v : Int, 0 ≤ u → u ≤ 20 → 0 ≤ v → v ≤ 4 → 0 ≤ u * v ∧ u * v ≤ 80 := fun u v a1 a2 a3 a4 => by
    have := Int.mul_le_mul a2 a4 a3 (by omega)
    exact ⟨Int.mul_nonneg a1 a3, by omega⟩
  obtain ⟨y0, y1⟩ := bd r s h0 h1 (by omega) hs2
  obtain ⟨x0, x1⟩ := bd c s h2 h3 (by omega) hs2
  generalize hY : r * s - p = Y at *
  generalize hX : c * s - p = X at *
  have Y1 : -5 ≤ Y := by omega
  have Y2 : Y ≤ 80 := by omega
  have X1 : -5 ≤ X := by omega
  have X2 : X ≤ 80 := by omega
  have K1 := Lib.hid k1
  have K2 := Lib.hid k2
  obtain ⟨i0, hi, hz0, hz1, hz2⟩ := info_parts infoWindow
  clear e1 e2 k1 k2 y0 y1 x0 x1 bd hY hX
  unfold plane
  go_enter Try.func53, Try.ntmps53
  go_wp2
  generalize hw1 : w.alloc (Obj.cells #[.int .i64 rows, .int .i64 cols, .int .i64 K, .int .i64 s, .int .i64 p] 77) = w1 at *
  have hsz : w1.heap.size = w.heap.size + 1 := by rw [← hw1, World.size_alloc]
  clear hw1
  have F0 := Lib.hid f0
  have F1 := Lib.hid f1
  have F2 := Lib.hid f2
  go_quiet ((go_at_call 54; first | exact Calls.quiet_of_same (of_still _ _ _ ok1) | exact Calls.quiet_of_same (of_still _ _ _ ok2) | exact Calls.quiet_of_same (of_still _ _ _ ok3)))
  have g0 : (w1.drewN nq).cell? ⟨w.heap.size, 0, none⟩ = some (.int .i64 rows) := F0.out
  have g1 : (w1.drewN nq).cell? ⟨w.heap.size, 1, none⟩ = some (.int .i64 cols) := F1.out
  have g2 : (w1.drewN nq).cell? ⟨w.heap.size, 2, none⟩ = some (.int .i64 K) := F2.out
  have B1 := Lib.hid (hb.out.draws nq)
  clear hm hs f0 f1 f2 f3 f4 F0 F1 F2 hb hsz ok1 ok2 ok3
  generalize w1.drewN nq = w2 at *
  have G0 := Lib.hid g0
  have G1 := Lib.hid g1
  have G2 := Lib.hid g2
  go_wp2
  clear g0 g1 g2
  go_loopw [7, 29] (fun l i wr => ∃ I : Nat, I ≤ K ∧ i = .int .i64 I ∧ wr.ownsRow w2.heap.size 68 3 l (Wn.win rows cols Y X I K).length (Wn.flat (Wn.win rows cols Y X I K)) ∧ Below w2.heap.size w2 wr) (fun _ i _ => K - (intOf i).toNat)
  case atStart => exact ⟨0, Nat.zero_le _, rfl, World.ownsRow_nil _ _ _ _, Below.refl _ _⟩
  case round =>
    obtain ⟨I, hI, rfl, hown, hnx⟩ := hrel
    by_cases hlt : I < K
    · have c2 := hnx.cell_of G2.out
      have GO := Lib.hid hown
      have GN := Lib.hid hnx
      clear hown hnx
      go_wp2
      clear c2
      go_loopw [7, 34] (fun l j wx => ∃ J : Nat, J ≤ K ∧ j = .int .i64 J ∧ wx.ownsRow w2.heap.size 68 3 l (Wn.win rows cols Y X I K ++ Wn.row rows cols Y X I J).length (Wn.flat (Wn.win rows cols Y X I K ++ Wn.row rows cols Y X I J)) ∧ Below w2.heap.size w2 wx) (fun _ j _ => K - (intOf j).toNat)
      case atStart => exact ⟨0, Nat.zero_le _, rfl, by simpa [Wn.row] using GO.out, GN.out⟩
      case round =>
        clear GO GN
        obtain ⟨J, hJ, rfl, hown, hnx⟩ := hrel
        by_cases hlj : J < K
        · obtain ⟨t1, t2, e1, k1, k2⟩ := FI.csum K1.out K2.out (FI.ofInt I (by omega)) (FI.ofInt J (by omega)) (by omega) (by omega)
          have ha : ∀ t w, (binOp .add t (.complex .f64 q1 q2) (.complex .f64 (floatOfInt .f64 I) (floatOfInt .f64 J))).run Try.prog w = .ok (.complex .f64 t1 t2) w := fun t w => run_complex_sum w .add (Or.inl rfl) t .f64 q1 q2 _ _ t1 t2 e1
          have OF := Lib.hid (fun w => of_yes I J w ⟨by omega, by omega, by omega, by omega⟩)
          have TO := Lib.hid (fun w => to_small t1 t2 (Y + I) (X + J) w k1 k2 (by omega) (by omega) (by omega) (by omega))
          generalize floatOfInt .f64 I = fi at *
          generalize floatOfInt .f64 J = fj at *
          have c0 := hnx.cell_of G0.out
          have c1 := hnx.cell_of G1.out
          have hln : (Wn.win rows cols Y X I K ++ Wn.row rows cols Y X I J).length ≤ 30 := by
            rw [List.length_append]
            have l1 := Wn.length_win rows cols Y X K I
            have l2 := Wn.length_row rows cols Y X I J
            have l3 : I * K ≤ 5 * 5 := Nat.mul_le_mul (by omega) hk2
            omega
          have hrs := Wn.row_succ rows cols Y X I J
          unfold Wn.cell at hrs
          generalize hL : Wn.win rows cols Y X I K ++ Wn.row rows cols Y X I J = L at *
          have HL := Lib.hid hL
          have GO := Lib.hid hown
          have GN := Lib.hid hnx
          clear hown hnx hL e1 k1 k2
          by_cases hy : 0 ≤ Y + I ∧ Y + I ≤ rows - 1
          · by_cases hx : 0 ≤ X + J ∧ X + J ≤ cols - 1
            · rw [if_pos ⟨hy, hx⟩] at hrs
              have HR := Lib.hid hrs
              clear hrs
              obtain ⟨y1, y2⟩ := hy
              obtain ⟨x1, x2⟩ := hx
              have z0 : 0 ≤ (Y + I) * cols := Int.mul_nonneg y1 (by omega)
              have z1 : (Y + I) * cols ≤ 16 * 16 := Int.mul_le_mul (by omega) hc2 (by omega) (by omega)
              go_wp2_with fail
              refine (OF.out _).mono ?_
              rintro e w' ⟨rfl, rfl⟩
              go_wp2_with (simp only [ha])
              refine (TO.out _).mono ?_
              rintro e w' ⟨rfl, rfl⟩
              go_wp2_with (first
                | (go_at_call 52; go_call placeIn_yes as e w' ⟨rfl, rfl⟩)
                | (at_builtin; refine wpList_append_some _ rfl _ _ 65 rfl w2.heap.size 68 i0 (.agg #[.int .i64 0, .int .i64 0, .int .i64 0]) 3 24 Try.underlying65 hi hz0 hz1 hz2 rfl (by decide) _ L.length (Wn.flat L) rfl (GO.out.alloc _) ⟨wr.heap.size, 0, none⟩ 1 1 [.int .i64 ((Y + I) * cols + (X + J)), .int .i64 I, .int .i64 J] rfl rfl ?c1 ?c2 ?c3 ?c4 ?c5 ?c6 ?_))
              case c1 => exact Wn.new3 _ _ _ _ _
              case c2 => intro u hu; simp at hu; rcases hu with rfl | rfl | rfl <;> rfl
              case c3 => unfold maxLen; omega
              case c4 => omega
              case c5 => have := GN.out.size; rw [World.size_alloc]; omega
              case c6 => omega
              intro g c' w4 hown2 hgrow hg hg2
              have GB := Lib.hid (below_app GN.out GN.out.size GO.out hgrow)
              have GO2 := Lib.hid (Wn.app (t := ((Y + I) * cols + (X + J), (I : Int), (J : Int))) (M := Wn.win rows cols Y X I K ++ Wn.row rows cols Y X I (J + 1)) hown2 (by rw [HR.out, ← List.append_assoc, HL.out]))
              clear hown2 hgrow
              go_wp2
              go_roundw
              case rel => exact ⟨J + 1, by omega, by go_num, GO2.out, GB.out⟩
              case measure => simp [intOf]; omega
            · rw [if_neg (fun h => hx h.2), List.append_nil] at hrs
              have HR := Lib.hid hrs
              clear hrs
              have hx2 : X + J < 0 ∨ cols - 1 < X + J := by omega
              obtain ⟨y1, y2⟩ := hy
              clear hx
              have IX := Lib.hid (fun w => placeIn_no (X + J) 0 (cols - 1) w hx2)
              clear hx2
              go_wp2_with fail
              refine (OF.out _).mono ?_
              rintro e w' ⟨rfl, rfl⟩
              go_wp2_with (simp only [ha])
              refine (TO.out _).mono ?_
              rintro e w' ⟨rfl, rfl⟩
              go_wp2_with fail
              refine (placeIn_yes (Y + I) 0 (rows - 1) _ y1 y2).mono ?_
              rintro e w' ⟨rfl, rfl⟩
              go_wp2_with fail
              refine (IX.out _).mono ?_
              rintro e w' ⟨rfl, rfl⟩
              go_wp2
              go_roundw
              case rel => exact ⟨J + 1, by omega, by go_num, by rw [HR.out, HL.out]; exact GO.out, GN.out⟩
              case measure => simp [intOf]; omega
          · rw [if_neg (fun h => hy h.1), List.append_nil] at hrs
            have HR := Lib.hid hrs
            clear hrs
            have hy2 : Y + I < 0 ∨ rows - 1 < Y + I := by omega
            clear hy
            have IX := Lib.hid (fun w => placeIn_no (Y + I) 0 (rows - 1) w hy2)
            clear hy2
            go_wp2_with fail
            refine (OF.out _).mono ?_
            rintro e w' ⟨rfl, rfl⟩
            go_wp2_with (simp only [ha])
            refine (TO.out _).mono ?_
            rintro e w' ⟨rfl, rfl⟩
            go_wp2_with fail
            refine (IX.out _).mono ?_
            rintro e w' ⟨rfl, rfl⟩
            go_wp2
            go_roundw
            case rel => exact ⟨J + 1, by omega, by go_num, by rw [HR.out, HL.out]; exact GO.out, GN.out⟩
            case measure => simp [intOf]; omega
        · have hje : J = K := by omega
          have hown2 := hown
          rw [hje, ← Wn.win_succ] at hown2
          have GO := Lib.hid hown2
          have GN := Lib.hid hnx
          clear hown hown2 hnx hje
          go_wp2
          go_roundw
          case rel => exact ⟨I + 1, by omega, by go_num, GO.out, GN.out⟩
          case measure => simp [intOf]; omega
    · have hke : I = K := by omega
      have hown2 := hown
      rw [hke] at hown2
      obtain ⟨a, n, c', hv, hwin⟩ := WinAt.owned hown2
      have hfr := Lib.hid (show ∀ x, a = some x → w.heap.size ≤ x.block from fun x hx => by
        have h1 := (hown2.lt x.block (by rw [hv, hx]; rfl)).1
        have h2 := B1.out.size
        omega)
      rw [hv]
      have GW := Lib.hid hwin
      have GN := Lib.hid (hnx.mono B1.out.size)
      clear hown hown2 hnx hke hv hwin
      go_wp2
      go_ret
      exact ⟨_, _, _, rfl, GW.out, B1.out.trans GN.out, hfr.out⟩
theorem planeWindow_any (rows cols s p r c : Int) (K : Nat) (w : World) (hr1 : 1 ≤ rows) (hr2 : rows ≤ 16) (hc1 : 1 ≤ cols) (hc2 : cols ≤ 16) (hk1 : 1 ≤ K) (hk2 : K ≤ 5) (hs1 : 1 ≤ s) (hs2 : s ≤ 4) (hp1 : 0 ≤ p) (hp2 : p ≤ 5) (h0 : 0 ≤ r) (h1 : r ≤ 20) (h2 : 0 ≤ c) (h3 : c ≤ 20) :
    Calls Try.prog 53 #[plane rows cols (K : Int) s p, .int .i64 r, .int .i64 c] w (GivesWin (Wn.win rows cols (r * s - p) (c * s - p) K K) w) :=
  (planeWindowF_any rows cols s p r c K w hr1 hr2 hc1 hc2 hk1 hk2 hs1 hs2 hp1 hp2 h0 h1 h2 h3).mono fun _ _ ⟨a, n, c, h1, h2, h3, _⟩ => ⟨a, n, c, h1, h2, h3⟩

theorem outW_bound {n k s p : Int} (h : 1 ≤ outW n k s p) : 1 ≤ n ∧ n ≤ 16 ∧ 1 ≤ k ∧ k ≤ 5 ∧ 1 ≤ s ∧ s ≤ 4 ∧ 0 ≤ p ∧ p ≤ 4 ∧ outW n k s p ≤ 20 := by
  unfold outW at h ⊢
  split at h
  · rename_i hk
    rw [if_pos hk]
    obtain ⟨h1, h2, h3, h4, h5, h6, h7, h8, h9⟩ := hk
    have : (n + 2 * p - k) / s ≤ 19 := by
      apply Int.ediv_le_of_le_mul (by omega)
      omega
    omega
  · omega
end Go.Proofs.Ytaijiihlkcbdhaa
