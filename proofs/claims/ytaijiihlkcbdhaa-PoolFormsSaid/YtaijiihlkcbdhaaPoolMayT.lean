/-
  The reference's word on whether a tensor may be.
-/
import Derived.Test.YtaijiihlkcbdhaaPoolTools
namespace Go.Proofs.Ytaijiihlkcbdhaa
open Go.RowKit
set_option linter.unusedVariables false
attribute [local go_sem ↓] Go.wp_at_zero Go.wp_at_succ
theorem refMay_still (a : Option Addr) (len cap : Nat) (zs : List Int) (w : World) (h : RowAt .i64 w a len zs) : Calls Try.prog 30 #[.slice a len cap] w fun e w' => e = .returned (.bool (decide (0 < Sh.size zs))) ∧ w' = w := (refMay_any a len cap zs w h).mono fun _ _ ⟨a, b⟩ => ⟨a, b.symm⟩
theorem refSize_still (a : Option Addr) (len cap : Nat) (zs : List Int) (w : World) (h : RowAt .i64 w a len zs) : Calls Try.prog 31 #[.slice a len cap] w fun e w' => e = .returned (.int .i64 (Sh.size zs)) ∧ w' = w := (refSize_any a len cap zs w h).mono fun _ _ ⟨a, b⟩ => ⟨a, b.symm⟩
set_option maxHeartbeats 4000000 in
theorem refMayT_any (a : Option Addr) (l c : Nat) (d : List Int) (e : Int) (b : Option Addr) (m k : Nat) (z : List Int) (w : World) (h0 : RowAt .i64 w a l d) (h1 : RowAt .i8 w b m z) :
    Calls Try.prog 13 #[tensor a l c e b m k] w (GivesV (.bool (decide (T.may d e z))) w) := by
  have hb := Lib.hid (below_alloc w (Obj.cells #[.slice a l c, .int .i64 e, .slice b m k] 25))
  have hn := Lib.hid (tensor_cells w a l c e b m k 25)
  have H0 := Lib.hid (h0.below hb.out)
  have H1 := Lib.hid (h1.below hb.out)
  have hml := h1.len_le
  have hL := h1.len_eq
  have HL := Lib.hid h1.len_eq
  have M := Lib.hid (fun n => refMay_still a l c d _ (H0.out.draws n))
  have S := Lib.hid (fun n => refSize_still a l c d _ (H0.out.draws n))
  have hdec : T.may d e z ↔ (0 < Sh.size d ∧ ((m : Int) = Sh.size d) ∧ (-64 ≤ e ∧ e ≤ 64) ∧ ¬ (-128 : Int) ∈ z) := by
    unfold T.may
    rw [hL]
  have HD := Lib.hid hdec
  clear hL h0 h1 hdec
  obtain ⟨A, hA⟩ : ∃ A, decide (0 < Sh.size d) = A := ⟨_, rfl⟩
  have HA := Lib.hid hA
  rw [hA] at M
  clear hA
  generalize hsz : Sh.size d = sz at *
  clear hsz
  unfold tensor
  by_cases c0 : A = true ∧ (m : Int) = sz ∧ -64 ≤ e ∧ e ≤ 64
  · obtain ⟨rfl, hms, he1, he2⟩ := c0
    have x1 : ((m : Int) != sz) = false := by rw [bne_eq_false_iff_eq]; exact hms
    have x2 : decide (e < -64) = false := decide_eq_false (by omega)
    have x3 : decide (64 < e) = false := decide_eq_false (by omega)
    have HI : decide (T.may d e z) = !decide ((-128 : Int) ∈ z) := by
      rw [Bool.eq_iff_iff]
      simp only [decide_eq_true_eq, Bool.not_eq_true', decide_eq_false_iff_not]
      rw [HD.out]
      exact ⟨fun h => h.2.2.2, fun h => ⟨of_decide_eq_true HA.out, hms, ⟨he1, he2⟩, h⟩⟩
    rw [HI]
    clear HI HD
    obtain ⟨B, hB⟩ : ∃ B, (!decide ((-128 : Int) ∈ z)) = B := ⟨_, rfl⟩
    have HB := Lib.hid hB
    rw [hB]
    clear hB
    obtain ⟨q0, q1, q2, _⟩ := newTensor hn.out
    go_enter Try.func13, Try.ntmps13
    go_wp2
    generalize w.alloc (Obj.cells #[.slice a l c, .int .i64 e, .slice b m k] 25) = w1 at *
    go_quiet ((first
      | (go_at_call 30; exact Calls.quiet_of_same (M.out _))
      | (go_at_call 31; exact Calls.quiet_of_same (S.out _))))
    go_wp2
    clear q0 q1 q2
    obtain ⟨wo, hwo⟩ : ∃ wo, wo = w1.drewN nq := ⟨_, rfl⟩
    have Hq := Lib.hid (hwo ▸ H1.out.draws nq)
    have Bq := Lib.hid (hwo ▸ hb.out.draws nq)
    rw [← hwo]
    clear hwo
    go_loopw [31] (fun i wr => ∃ j : Nat, j ≤ m ∧ i = .int .i64 j ∧ wr = wo ∧ ∀ x, x < j → z.getD x 0 ≠ -128) (fun i _ => m - (intOf i).toNat)
    case atStart => refine ⟨0, Nat.zero_le _, by first | rfl | trivial, ?_⟩; first | exact ⟨rfl, fun x hx => by omega⟩ | exact ⟨trivial, fun x hx => by omega⟩ | (simp; done)
    case round =>
      obtain ⟨j, hj, rfl, rfl, hs⟩ := hrel
      have HS := Lib.hid hs
      clear hs
      by_cases hlt : j < m
      · obtain ⟨p0, o0, rfl, e0⟩ := Hq.out.cells (by omega)
        have f0 := e0 j hlt
        clear e0
        have hmem : z.getD j 0 ∈ z := by
          have : j < z.length := by rw [HL.out]; exact hlt
          simp [List.getD, List.getElem?_eq_getElem this]
        have HM := Lib.hid hmem
        clear hmem
        generalize hx : z.getD j 0 = x at *
        have HX := Lib.hid hx
        clear hx
        by_cases c1 : x = -128
        · subst c1
          go_wp2
          go_ret
          exact ⟨ret_bool (by rw [← HB.out, decide_eq_true HM.out]; rfl), Bq.out⟩
        · have c2 : (x == -128) = false := by simpa using c1
          have HC := Lib.hid c1
          clear c1
          go_wp2
          go_roundw
          case rel => exact ⟨j + 1, by omega, by go_num, trivial, fun y hy => by (by_cases c : y = j); (subst c; rw [HX.out]; exact HC.out); exact HS.out y (by omega)⟩
          case measure => simp [intOf]; omega
      · go_wp2
        go_ret
        exact ⟨ret_bool (by rw [← HB.out, decide_eq_false (p := (-128 : Int) ∈ z) (fun h => by
          obtain ⟨y, hy, e⟩ := List.getElem_of_mem h
          exact HS.out y (by have := HL.out; omega) (by simp [List.getD, List.getElem?_eq_getElem hy, e]))]; rfl), Bq.out⟩
  · have HI : decide (T.may d e z) = false := by
      apply decide_eq_false
      rw [HD.out]
      exact fun h => c0 ⟨by rw [← HA.out]; exact decide_eq_true h.1, h.2.1, h.2.2.1.1, h.2.2.1.2⟩
    rw [HI]
    clear HI HD
    have cs : A = false ∨ (A = true ∧ (m : Int) ≠ sz) ∨ (A = true ∧ (m : Int) = sz ∧ e < -64) ∨ (A = true ∧ (m : Int) = sz ∧ -64 ≤ e ∧ 64 < e) := by
      cases A
      · exact Or.inl rfl
      · right
        by_cases d1 : (m : Int) = sz
        · right
          by_cases d2 : e < -64
          · exact Or.inl ⟨rfl, d1, d2⟩
          · exact Or.inr ⟨rfl, d1, by omega, by
              have : ¬ e ≤ 64 := fun h => c0 ⟨rfl, d1, by omega, h⟩
              omega⟩
        · exact Or.inl ⟨rfl, d1⟩
    clear c0 HA
    obtain ⟨q0, q1, q2, _⟩ := newTensor hn.out
    rcases cs with rfl | ⟨rfl, d1⟩ | ⟨rfl, d1, d2⟩ | ⟨rfl, d1, d2, d3⟩
    · skip
      go_enter Try.func13, Try.ntmps13
      go_wp2
      generalize w.alloc (Obj.cells #[.slice a l c, .int .i64 e, .slice b m k] 25) = w1 at *
      go_quiet ((first
        | (go_at_call 30; exact Calls.quiet_of_same (M.out _))
        | (go_at_call 31; exact Calls.quiet_of_same (S.out _))))
      go_wp2
      go_ret
      exact ⟨rfl, hb.out.draws _⟩
    · have x1 : ((m : Int) != sz) = true := by rw [bne_iff_ne]; exact d1
      go_enter Try.func13, Try.ntmps13
      go_wp2
      generalize w.alloc (Obj.cells #[.slice a l c, .int .i64 e, .slice b m k] 25) = w1 at *
      go_quiet ((first
        | (go_at_call 30; exact Calls.quiet_of_same (M.out _))
        | (go_at_call 31; exact Calls.quiet_of_same (S.out _))))
      go_wp2
      go_ret
      exact ⟨rfl, hb.out.draws _⟩
    · have x1 : ((m : Int) != sz) = false := by rw [bne_eq_false_iff_eq]; exact d1
      have x2 : decide (e < -64) = true := decide_eq_true d2
      go_enter Try.func13, Try.ntmps13
      go_wp2
      generalize w.alloc (Obj.cells #[.slice a l c, .int .i64 e, .slice b m k] 25) = w1 at *
      go_quiet ((first
        | (go_at_call 30; exact Calls.quiet_of_same (M.out _))
        | (go_at_call 31; exact Calls.quiet_of_same (S.out _))))
      go_wp2
      go_ret
      exact ⟨rfl, hb.out.draws _⟩
    · have x1 : ((m : Int) != sz) = false := by rw [bne_eq_false_iff_eq]; exact d1
      have x2 : decide (e < -64) = false := decide_eq_false (by omega)
      have x3 : decide (64 < e) = true := decide_eq_true d3
      go_enter Try.func13, Try.ntmps13
      go_wp2
      generalize w.alloc (Obj.cells #[.slice a l c, .int .i64 e, .slice b m k] 25) = w1 at *
      go_quiet ((first
        | (go_at_call 30; exact Calls.quiet_of_same (M.out _))
        | (go_at_call 31; exact Calls.quiet_of_same (S.out _))))
      go_wp2
      go_ret
      exact ⟨rfl, hb.out.draws _⟩
end Go.Proofs.Ytaijiihlkcbdhaa
