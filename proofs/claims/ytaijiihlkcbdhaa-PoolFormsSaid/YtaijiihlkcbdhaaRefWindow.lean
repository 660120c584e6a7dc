/-
  The reference's places of a window.
-/
import Derived.Test.YtaijiihlkcbdhaaRefParts
namespace Go.Proofs.Ytaijiihlkcbdhaa
open Go.RowKit
set_option linter.unusedVariables false
attribute [local go_sem ↓] Go.wp_at_zero Go.wp_at_succ
set_option maxHeartbeats 8000000 in
theorem refWindow_yes (rows cols r c s : Int) (K : Nat) (P Q : Int) (w : World) (hP : outW rows K s 0 = P) (hQ : outW cols K s 0 = Q) (r0 : 0 ≤ r) (r1 : r < P) (c0 : 0 ≤ c) (c1 : c < Q) :
    Calls Try.prog 40 #[.int .i64 rows, .int .i64 cols, .int .i64 r, .int .i64 c, .int .i64 K, .int .i64 s, .int .i64 0] w (GivesWin (Wn.win rows cols (r * s) (c * s) K K) w) := by
  obtain ⟨a1, a2, k1, k2, s1, s2, a7, afit⟩ := outW_fit (show 1 ≤ outW rows K s 0 by omega)
  obtain ⟨b1, b2, _, _, _, _, b7, bfit⟩ := outW_fit (show 1 ≤ outW cols K s 0 by omega)
  have Y2 := afit r r0 (by omega)
  have X2 := bfit c c0 (by omega)
  have Y1 := Int.mul_nonneg r0 (show 0 ≤ s by omega)
  have X1 := Int.mul_nonneg c0 (show 0 ≤ s by omega)
  have HO := Lib.hid (fun n w => refOut_any n K s 0 w)
  have HP := Lib.hid hP
  have HQ := Lib.hid hQ
  obtain ⟨Y, hY⟩ : ∃ Y, r * s = Y := ⟨_, rfl⟩
  obtain ⟨X, hX⟩ : ∃ X, c * s = X := ⟨_, rfl⟩
  rw [hY] at Y1 Y2 ⊢
  rw [hX] at X1 X2 ⊢
  have m1 : IntKind.i64.wrap (r * s) = Y := by rw [hY]; exact IntWalk.i64_in _ (by omega)
  have m2 : IntKind.i64.wrap (c * s) = X := by rw [hX]; exact IntWalk.i64_in _ (by omega)
  have d1 : decide (r < 0) = false := decide_eq_false (by omega)
  have d2 : decide (c < 0) = false := decide_eq_false (by omega)
  have d3 : decide (P ≤ r) = false := decide_eq_false (by omega)
  have d4 : decide (Q ≤ c) = false := decide_eq_false (by omega)
  obtain ⟨i0, hi, hz0, hz1, hz2⟩ := info_parts infoWindow
  clear afit bfit hP hQ hY hX a7 b7
  go_enter Try.func40, Try.ntmps40
  go_wp2_with fail
  refine (HO.out rows w).mono ?_
  rintro e w' ⟨rfl, rfl⟩
  rw [HP.out]
  go_wp2_with fail
  refine (HO.out cols _).mono ?_
  rintro e w' ⟨rfl, rfl⟩
  rw [HQ.out]
  go_wp2_with fail
  clear d1 d2 d3 d4 HO HP HQ
  go_loopw [15, 45] (fun l i wr => ∃ I : Nat, I ≤ K ∧ i = .int .i64 I ∧ wr.ownsRow w.heap.size 68 3 l (Wn.win rows cols Y X I K).length (Wn.flat (Wn.win rows cols Y X I K)) ∧ Below w.heap.size w wr) (fun _ i _ => K - (intOf i).toNat)
  case atStart => exact ⟨0, Nat.zero_le _, rfl, World.ownsRow_nil _ _ _ _, Below.refl _ _⟩
  case round =>
    obtain ⟨I, hI, rfl, hown, hnx⟩ := hrel
    have GO := Lib.hid hown
    have GN := Lib.hid hnx
    by_cases hlt : I < K
    · clear hown hnx
      go_wp2_with fail
      go_loopw [15, 49] (fun l j wx => ∃ J : Nat, J ≤ K ∧ j = .int .i64 J ∧ wx.ownsRow w.heap.size 68 3 l (Wn.win rows cols Y X I K ++ Wn.row rows cols Y X I J).length (Wn.flat (Wn.win rows cols Y X I K ++ Wn.row rows cols Y X I J)) ∧ Below w.heap.size w wx) (fun _ j _ => K - (intOf j).toNat)
      case atStart => exact ⟨0, Nat.zero_le _, rfl, by simpa [Wn.row] using GO.out, GN.out⟩
      case round =>
        clear GO GN
        obtain ⟨J, hJ, rfl, hown, hnx⟩ := hrel
        have GO := Lib.hid hown
        have GN := Lib.hid hnx
        by_cases hlj : J < K
        · have hln : (Wn.win rows cols Y X I K ++ Wn.row rows cols Y X I J).length ≤ 30 := by
            rw [List.length_append]
            have l1 := Wn.length_win rows cols Y X K I
            have l2 := Wn.length_row rows cols Y X I J
            have l3 : I * K ≤ 5 * 5 := Nat.mul_le_mul (by omega) (by omega)
            omega
          have hrs := Wn.row_succ rows cols Y X I J
          unfold Wn.cell at hrs
          rw [if_pos ⟨⟨by omega, by omega⟩, ⟨by omega, by omega⟩⟩] at hrs
          generalize hL : Wn.win rows cols Y X I K ++ Wn.row rows cols Y X I J = L at *
          have HL := Lib.hid hL
          have HR := Lib.hid hrs
          clear hown hnx hL hrs
          have z0 : 0 ≤ (Y + I) * cols := Int.mul_nonneg (by omega) (by omega)
          have z1 : (Y + I) * cols ≤ 16 * 16 := Int.mul_le_mul (by omega) b2 (by omega) (by omega)
          have n1 : IntKind.i64.wrap (Y + I) = Y + I := IntWalk.i64_in _ (by omega)
          have n2 : IntKind.i64.wrap (X + J) = X + J := IntWalk.i64_in _ (by omega)
          have n3 : IntKind.i64.wrap ((Y + I) * cols) = (Y + I) * cols := IntWalk.i64_in _ (by omega)
          have n4 : IntKind.i64.wrap ((Y + I) * cols + (X + J)) = (Y + I) * cols + (X + J) := IntWalk.i64_in _ (by omega)
          have d1 : decide (0 ≤ Y + (I : Int)) = true := decide_eq_true (by omega)
          have d2 : decide (Y + (I : Int) < rows) = true := decide_eq_true (by omega)
          have d3 : decide (0 ≤ X + (J : Int)) = true := decide_eq_true (by omega)
          have d4 : decide (X + (J : Int) < cols) = true := decide_eq_true (by omega)
          go_wp2_with (at_builtin; refine wpList_append_some _ rfl _ _ 65 rfl w.heap.size 68 i0 (.agg #[.int .i64 0, .int .i64 0, .int .i64 0]) 3 24 Try.underlying65 hi hz0 hz1 hz2 rfl (by decide) _ L.length (Wn.flat L) rfl (GO.out.alloc _) ⟨wr.heap.size, 0, none⟩ 1 1 [.int .i64 ((Y + I) * cols + (X + J)), .int .i64 I, .int .i64 J] rfl rfl ?c1 ?c2 ?c3 ?c4 ?c5 ?c6 ?_)
          case c1 => exact Wn.new3 _ _ _ _ _
          case c2 => intro u hu; simp at hu; rcases hu with rfl | rfl | rfl <;> rfl
          case c3 => unfold maxLen; omega
          case c4 => omega
          case c5 => have := GN.out.size; rw [World.size_alloc]; omega
          case c6 => omega
          intro g c' w4 hown2 hgrow hg hg2
          have GB := Lib.hid (below_app GN.out GN.out.size GO.out hgrow)
          have GO2 := Lib.hid (Wn.app (t := ((Y + I) * cols + (X + J), (I : Int), (J : Int))) (M := Wn.win rows cols Y X I K ++ Wn.row rows cols Y X I (J + 1)) hown2 (by rw [HR.out, ← List.append_assoc, HL.out]))
          clear hown2 hgrow n1 n2 n3 n4 d1 d2 d3 d4
          go_wp2
          go_roundw
          case rel => exact ⟨J + 1, by omega, by go_num, GO2.out, GB.out⟩
          case measure => simp [intOf]; omega
        · have hje : J = K := by omega
          have hown2 := hown
          rw [hje, ← Wn.win_succ] at hown2
          have GO2 := Lib.hid hown2
          clear hown hown2 hnx hje
          go_wp2_with fail
          go_roundw
          case rel => exact ⟨I + 1, by omega, by go_num, GO2.out, GN.out⟩
          case measure => simp [intOf]; omega
    · have hke : I = K := by omega
      have hown2 := hown
      rw [hke] at hown2
      obtain ⟨a, n, c', hv, hwin⟩ := WinAt.owned hown2
      rw [hv]
      have GW := Lib.hid hwin
      clear hown hown2 hnx hke hv hwin
      go_wp2_with fail
      go_ret
      exact ⟨_, _, _, rfl, GW.out, GN.out⟩
end Go.Proofs.Ytaijiihlkcbdhaa
