/-
  The walks of the reference's rows of lengths: MayDims, Size, Strides, SameInts, Index, AtDims.
-/
import Derived.Test.YtaijiihlkcbdhaaShapeWalk
namespace Go.Proofs.Ytaijiihlkcbdhaa
open Go.RowKit
set_option linter.unusedVariables false

set_option maxHeartbeats 400000 in
theorem refSame_same (a0 : Option Addr) (len0 cap0 : Nat) (xs : List Int) (a1 : Option Addr) (cap1 : Nat) (ys : List Int) (w : World) (h0 : RowAt .i64 w a0 len0 xs) (h1 : RowAt .i64 w a1 len0 ys) :
    Calls Try.prog 14 #[.slice a0 len0 cap0, .slice a1 len0 cap1] w (Gives (.bool (decide (xs = ys))) w) := by
  obtain ⟨B, hB⟩ : ∃ B, decide (xs = ys) = B := ⟨_, rfl⟩
  have HB := Lib.hid hB
  rw [hB]
  clear hB
  have H0 := Lib.hid h0
  have H1 := Lib.hid h1
  have hl := h0.len_le
  have L0 := Lib.hid h0.len_eq
  have L1 := Lib.hid h1.len_eq
  have hb : ((len0 : Int) != (len0 : Int)) = false := by simp
  clear h0 h1
  go_enter Try.func14, Try.ntmps14
  go_wp2
  go_loopw [13] (fun i wr => ∃ k q : Nat, k ≤ len0 ∧ i = .int .i64 k ∧ (∀ j, j < k → xs.getD j 0 = ys.getD j 0) ∧ wr = w.drewN q) (fun i _ => len0 - (intOf i).toNat)
  case atStart => exact ⟨0, 0, Nat.zero_le _, rfl, fun j hj => by omega, rfl⟩
  case round =>
    obtain ⟨k, q, hk, rfl, hs, rfl⟩ := hrel
    have HS := Lib.hid hs
    clear hs
    by_cases hlt : k < len0
    · obtain ⟨b0, o0, rfl, e0⟩ := H0.out.cells (by omega)
      obtain ⟨b1, o1, rfl, e1⟩ := H1.out.cells (by omega)
      have f0 := e0 k hlt
      have f1 := e1 k hlt
      clear e0 e1
      generalize hx : xs.getD k 0 = x at *
      generalize hy : ys.getD k 0 = y at *
      have HX := Lib.hid hx
      have HY := Lib.hid hy
      clear hx hy
      by_cases c : x = y
      · subst c
        have c2 : (x != x) = false := by simp
        go_wp2
        go_quiet (fail)
        go_wp2
        go_roundw
        case rel => exact ⟨k + 1, q + nq, by omega, by go_num, fun j hj => by (by_cases c : j = k); (subst c; exact HX.out.trans HY.out.symm); exact HS.out j (by omega), rfl⟩
        case measure => simp [intOf]; omega
      · have c2 : (x != y) = true := by rw [bne_iff_ne]; exact c
        have HC := Lib.hid c
        clear c
        go_wp2
        go_quiet (fail)
        go_wp2
        go_ret
        exact ⟨ret_bool (by rw [← HB.out]; exact (decide_eq_false fun e => HC.out (by rw [← HX.out, ← HY.out, e])).symm), q + nq, World.drewN_drewN _ _ _⟩
    · go_wp2
      go_ret
      exact ⟨ret_bool (by rw [← HB.out]; exact (decide_eq_true (Sh.ext_getD (L0.out.trans L1.out.symm) fun j hj => HS.out j (by have := L0.out; omega))).symm), q, rfl⟩
theorem refSame_any (a0 : Option Addr) (len0 cap0 : Nat) (xs : List Int) (a1 : Option Addr) (len1 cap1 : Nat) (ys : List Int) (w : World) (h0 : RowAt .i64 w a0 len0 xs) (h1 : RowAt .i64 w a1 len1 ys) :
    Calls Try.prog 14 #[.slice a0 len0 cap0, .slice a1 len1 cap1] w (Gives (.bool (decide (xs = ys))) w) := by
  by_cases c : len0 = len1
  · subst c; exact refSame_same a0 len0 cap0 xs a1 cap1 ys w h0 h1
  · have e : decide (xs = ys) = false := decide_eq_false fun e => c (by rw [← h0.len_eq, ← h1.len_eq, e])
    rw [e]
    have l0 := h0.len_le
    have l1 := h1.len_le
    have hb : ((len0 : Int) != (len1 : Int)) = true := by rw [bne_iff_ne]; omega
    clear h0 h1 e c
    go_enter Try.func14, Try.ntmps14
    go_wp2
    go_ret
    exact ⟨rfl, 0, rfl⟩


theorem Sh.le_mul_prod {x y : Int} (h1 : 1 ≤ x) (h2 : 1 ≤ y) : x ≤ x * y := by rw [Int.mul_comm]; exact Sh.prod_le_mul h2 h1
theorem Sh.quo_lt {n x : Int} (h : 1 ≤ x) : 8192 / x < n ↔ 8192 < n * x := by
  rw [Int.ediv_lt_iff_lt_mul (by omega)]
set_option maxHeartbeats 400000 in
theorem refMay_some (a : Option Addr) (len cap : Nat) (zs : List Int) (w : World) (h : RowAt .i64 w a len zs) (h1 : 1 ≤ len) (h4 : len ≤ 4) :
    Calls Try.prog 30 #[.slice a len cap] w fun e w' => e = .returned (.bool (decide (0 < Sh.szTo 1 zs))) ∧ w = w' := by
  obtain ⟨b, off, rfl, hc⟩ := h.cells (by omega)
  have hl := Lib.hid h.len_eq
  have HC := Lib.hid hc
  clear h hc
  go_enter Try.func30, Try.ntmps30
  go_wp2
  go_loop [3, 16] (fun n i => ∃ (k : Nat) (N : Int), k ≤ len ∧ 1 ≤ N ∧ N ≤ 8192 ∧ i = .int .i64 k ∧ n = .int .i64 N ∧ Sh.szTo N (zs.drop k) = Sh.szTo 1 zs) (fun _ i => len - (intOf i).toNat)
  case atStart => exact ⟨0, 1, Nat.zero_le _, by omega, by omega, rfl, rfl, rfl⟩
  case round =>
    obtain ⟨k, N, hk, n1, n2, rfl, rfl, hs⟩ := hrel
    by_cases hlt : k < len
    · have hck := HC.out k hlt
      rw [Sh.drop_cons zs k (by have := hl.out; omega)] at hs
      generalize zs.getD k 0 = x at *
      by_cases c1 : x < 1
      · rw [Sh.szTo_no (Or.inl c1)] at hs
        have HS := Lib.hid hs
        clear hs
        go_wp2
        go_ret
        exact ⟨ret_bool (decide_eq_false (by rw [← HS.out]; omega)).symm, rfl⟩
      · by_cases c2 : 4096 < x
        · rw [Sh.szTo_no (Or.inr (Or.inl c2))] at hs
          have HS := Lib.hid hs
          clear hs
          go_wp2
          go_ret
          exact ⟨ret_bool (decide_eq_false (by rw [← HS.out]; omega)).symm, rfl⟩
        · obtain ⟨m1, m2⟩ := Sh.mul_bound n1 n2 (show 1 ≤ x by omega) (show x ≤ 4096 by omega)
          have hq := Sh.quo_lt (n := N) (show 1 ≤ x by omega)
          have q0 : 0 ≤ 8192 / x := Int.ediv_nonneg (by omega) (by omega)
          have q1 : 8192 / x ≤ 8192 := Int.ediv_le_of_le_mul (by omega) (by omega)
          by_cases c3 : 8192 < N * x
          · rw [Sh.szTo_no (Or.inr (Or.inr c3))] at hs
            have HS := Lib.hid hs
            have hq2 := hq.2 c3
            clear hs hq
            go_wp2
            go_ret
            exact ⟨ret_bool (decide_eq_false (by rw [← HS.out]; omega)).symm, rfl⟩
          · rw [Sh.szTo_yes (by omega)] at hs
            have HS := Lib.hid hs
            have hq2 : N ≤ 8192 / x := by
              have := fun h => c3 (hq.1 h)
              omega
            clear hs hq
            go_wp2
            go_round
            case rel => exact ⟨k + 1, N * x, by omega, m1, by omega, by go_num, rfl, HS.out⟩
            case measure => simp [intOf]; omega
    · have hke : k = len := by omega
      have HS := Lib.hid (by rw [hke, List.drop_of_length_le (by have := hl.out; omega)] at hs; exact hs : Sh.szTo N [] = Sh.szTo 1 zs)
      clear hs hke
      go_wp2
      go_ret
      exact ⟨ret_bool (decide_eq_true (by rw [← HS.out]; show 0 < N; omega)).symm, rfl⟩
theorem refMay_none (a : Option Addr) (len cap : Nat) (w : World) (h : len < 1 ∨ 4 < len) (hb : len ≤ 140737488351232) :
    Calls Try.prog 30 #[.slice a len cap] w fun e w' => e = .returned (.bool false) ∧ w = w' := by
  rcases h with h | h
  all_goals
    go_enter Try.func30, Try.ntmps30
    go_wp2
    go_ret
    exact ⟨rfl, rfl⟩
theorem refMay_any (a : Option Addr) (len cap : Nat) (zs : List Int) (w : World) (h : RowAt .i64 w a len zs) :
    Calls Try.prog 30 #[.slice a len cap] w fun e w' => e = .returned (.bool (decide (0 < Sh.size zs))) ∧ w = w' := by
  unfold Sh.size
  rw [h.len_eq]
  by_cases c : len < 1 ∨ 4 < len
  · rw [if_pos c]; exact refMay_none a len cap w c h.len_le
  · rw [if_neg c]; exact refMay_some a len cap zs w h (by omega) (by omega)
set_option maxHeartbeats 400000 in
theorem refSize_any (a : Option Addr) (len cap : Nat) (zs : List Int) (w : World) (h : RowAt .i64 w a len zs) :
    Calls Try.prog 31 #[.slice a len cap] w fun e w' => e = .returned (.int .i64 (Sh.size zs)) ∧ w = w' := by
  have H := Lib.hid h
  by_cases c : 0 < Sh.size zs
  · have hd := decide_eq_true c
    have my := Sh.may_of c
    have HM := Lib.hid (fun w h => hd ▸ refMay_any a len cap zs w h)
    have hl := Lib.hid h.len_eq
    have l1 : 1 ≤ len := h.len_eq ▸ my.l1
    have l4 : len ≤ 4 := h.len_eq ▸ my.l4
    obtain ⟨b, off, rfl, hc⟩ := h.cells (by omega)
    have HC := Lib.hid hc
    have HY := Lib.hid my
    rw [my.eq]
    clear h hc hd c my
    go_enter Try.func31, Try.ntmps31
    go_wp2_with fail
    refine (HM.out _ H.out).mono ?_
    rintro e w' ⟨rfl, rfl⟩
    go_wp2
    go_loop [3, 11] (fun n i => ∃ (k : Nat) (N : Int), k ≤ len ∧ 1 ≤ N ∧ N ≤ 8192 ∧ i = .int .i64 k ∧ n = .int .i64 N ∧ N * Sh.prod (zs.drop k) = Sh.prod zs) (fun _ i => len - (intOf i).toNat)
    case atStart => exact ⟨0, 1, Nat.zero_le _, by omega, by omega, rfl, rfl, by simp⟩
    case round =>
      obtain ⟨k, N, hk, n1, n2, rfl, rfl, hs⟩ := hrel
      by_cases hlt : k < len
      · have hck := HC.out k hlt
        rw [Sh.prod_drop_succ zs k (by have := hl.out; omega), ← Int.mul_assoc] at hs
        have hx := HY.out.get (show k < zs.length by have := hl.out; omega)
        have hp := HY.out.drop_pos (k + 1)
        have hle := HY.out.le
        generalize zs.getD k 0 = x at *
        have m := Sh.mul_bound n1 n2 hx.1 hx.2
        have hb := Sh.le_mul_prod m.1 hp
        rw [hs] at hb
        have m8 : N * x ≤ 8192 := by omega
        have m1 := m.1
        have HS := Lib.hid hs
        clear hs hb m
        go_wp2
        go_round
        case rel => exact ⟨k + 1, N * x, by omega, m1, m8, by go_num, rfl, HS.out⟩
        case measure => simp [intOf]; omega
      · have hke : k = len := by omega
        have HS := Lib.hid (by rw [hke, List.drop_of_length_le (by have := hl.out; omega), Sh.prod, Int.mul_one] at hs; exact hs : N = Sh.prod zs)
        clear hs hke
        go_wp2
        go_ret
        exact ⟨ret_int HS.out, rfl⟩
  · have hd := decide_eq_false c
    have HM := Lib.hid (fun w h => hd ▸ refMay_any a len cap zs w h)
    rw [Sh.size_zero c]
    clear h hd c
    go_enter Try.func31, Try.ntmps31
    go_wp2_with fail
    refine (HM.out _ H.out).mono ?_
    rintro e w' ⟨rfl, rfl⟩
    go_wp2
    go_ret
    exact ⟨rfl, rfl⟩

namespace Sh
theorem strides_snoc (d : List Int) (k : Nat) (h : k < d.length) : (strides d).take (k + 1) = (strides d).take k ++ [prod (d.drop (k + 1))] := by
  rw [List.take_succ_eq_append_getElem (by rw [length_strides]; exact h)]
  simp [strides]
theorem app_take {w' : World} {base g n c' : Nat} {d : List Int} {k : Nat} {q : Int} (h : w'.ownsRow base 3 1 (.slice (some ⟨g, 0, none⟩) (n + 1) c') (n + 1) (((strides d).map (Value.int .i64)).take k ++ [.int .i64 q])) (hk : k < d.length) (hq : q = prod (d.drop (k + 1))) :
    w'.ownsRow base 3 1 (.slice (some ⟨g, 0, none⟩) (n + 1) c') (n + 1) (((strides d).take (k + 1)).map (Value.int .i64)) := by
  rw [strides_snoc d k hk, List.map_append, ← hq, List.map_take]; exact h
end Sh
set_option maxHeartbeats 1000000 in
theorem refStrides_some (a : Option Addr) (len cap : Nat) (d : List Int) (w : World) (h : RowAt .i64 w a len d) (hm : Sh.May d) (hcap : len ≤ cap) :
    Calls Try.prog 32 #[.slice a len cap] w (GivesRow .i64 len (Sh.strides d) w) := by
  have hp : 0 < Sh.size d := hm.pos
  have hd : decide (0 < Sh.size d) = true := decide_eq_true hp
  have HM := Lib.hid (fun w h => hd ▸ refMay_any a len cap d w h)
  have l1 : 1 ≤ len := h.len_eq ▸ hm.l1
  have l4 : len ≤ 4 := h.len_eq ▸ hm.l4
  have hl := Lib.hid h.len_eq
  obtain ⟨b, off, rfl, hc⟩ := h.cells (by omega)
  have hbl := h.lt (by omega)
  have H := Lib.hid h
  have HC := Lib.hid hc
  have HY := Lib.hid hm
  obtain ⟨i0, hi, hz0, hz1, hz2⟩ := info_parts infoInt
  clear h hc hp hd hm
  go_enter Try.func32, Try.ntmps32
  go_wp2_with fail
  refine (HM.out _ H.out).mono ?_
  rintro e w' ⟨rfl, rfl⟩
  go_wp2
  go_loopw [3, 13] (fun v i wr => ∃ k : Nat, k ≤ len ∧ i = .int .i64 k ∧ wr.ownsRow w.heap.size 3 1 v k (((Sh.strides d).take k).map (Value.int .i64)) ∧ Below w.heap.size w wr) (fun _ i _ => len - (intOf i).toNat)
  case atStart => exact ⟨0, Nat.zero_le _, rfl, by simpa using World.ownsRow_nil _ _ _ _, Below.refl _ _⟩
  case round =>
    obtain ⟨k, hk, rfl, hown, hnx⟩ := hrel
    obtain ⟨wo, hwo⟩ : ∃ wo : World, wo = wr := ⟨_, rfl⟩
    by_cases hlt : k < len
    · rw [← hwo] at hown hnx
      have GO := Lib.hid hown
      have GN := Lib.hid hnx
      clear hown hnx
      have cs : cap = k + 1 ∨ cap ≠ k + 1 := by omega
      rcases cs with hck | hck
      · have hkl : len = k + 1 := by omega
        have hz : Sh.prod (d.drop (k + 1)) = 1 := by rw [List.drop_of_length_le (by have := hl.out; omega)]; rfl
        have HZ := Lib.hid hz
        clear hz
        go_wp2
        go_loopw [5, 21] (fun m j wx => m = .int .i64 1 ∧ j = .int .i64 0 ∧ wx = wo) (fun _ _ _ => 0)
        case atStart => exact ⟨rfl, rfl, hwo.symm⟩
        case round =>
          obtain ⟨rfl, rfl, hwx⟩ := hrel
          clear hwo
          subst hwx
          go_wp2_with (first
            | (at_builtin; refine wpList_append_some _ rfl _ _ 22 rfl w.heap.size 3 i0 (.int .i64 0) 1 8 Try.underlying22 hi hz0 hz1 hz2 rfl (by decide) _ k (((Sh.strides d).take k).map (Value.int .i64)) rfl (GO.out.alloc _) ⟨wr.heap.size, 0, none⟩ 1 1 [.int .i64 1] rfl rfl ?c1 ?c2 ?c3 ?c4 ?c5 ?c6 ?_))
          case c1 => exact new_one _ _ _
          case c2 => intro u hu; simp at hu; subst hu; rfl
          case c3 => unfold maxLen; omega
          case c4 => omega
          case c5 => have := GN.out.size; rw [World.size_alloc]; omega
          case c6 => omega
          intro g c' w2 hown2 hgrow hg hg2
          have GB := Lib.hid (below_app GN.out GN.out.size GO.out hgrow)
          clear hgrow
          go_wp2
          rw [hkl, hck, show ((k + 1 : Nat) : Int) = (k : Int) + 1 by go_num]
          go_roundw
          case rel => exact ⟨k + 1, by omega, by go_num, Sh.app_take hown2 (by have := hl.out; omega) (HZ.out).symm, GB.out⟩
          case measure => simp [intOf]
      · have hps := HY.out.drop_pos (k + 1)
        go_wp2
        go_loopw [5, 21] (fun m j wx => ∃ (J : Nat) (M : Int), J ≤ len - (k + 1) ∧ 1 ≤ M ∧ M ≤ 8192 ∧ m = .int .i64 M ∧ j = .int .i64 J ∧ M * Sh.prod (d.drop (k + 1 + J)) = Sh.prod (d.drop (k + 1)) ∧ wx = wo) (fun _ j _ => len - (k + 1) - (intOf j).toNat)
        case atStart => exact ⟨0, 1, by omega, by omega, by omega, rfl, rfl, by simp, hwo.symm⟩
        case round =>
          obtain ⟨J, M, hJ, m1, m2, rfl, rfl, hs, hwx⟩ := hrel
          clear hwo
          subst hwx
          by_cases hlj : J < len - (k + 1)
          · have f1 := GN.out.cell_of (HC.out (k + 1 + J) (by omega))
            rw [← Nat.add_assoc off] at f1
            rw [Sh.prod_drop_succ d (k + 1 + J) (by have := hl.out; omega), ← Int.mul_assoc] at hs
            have hx := HY.out.get (show k + 1 + J < d.length by have := hl.out; omega)
            have hp := HY.out.drop_pos (k + 1 + J + 1)
            have hle := HY.out.drop_le (k + 1) (by have := hl.out; omega)
            generalize d.getD (k + 1 + J) 0 = x at *
            have m := Sh.mul_bound m1 m2 hx.1 hx.2
            have hb := Sh.le_mul_prod m.1 hp
            rw [hs] at hb
            have m8 : M * x ≤ 8192 := by omega
            have m1' := m.1
            have HS := Lib.hid hs
            clear hs hb m
            go_wp2
            go_roundw
            case rel => exact ⟨J + 1, M * x, by omega, m1', m8, rfl, by go_num, HS.out, trivial⟩
            case measure => simp [intOf]; omega
          · have hje : J = len - (k + 1) := by omega
            have hM : M = Sh.prod (d.drop (k + 1)) := by rw [← hs, hje, List.drop_of_length_le (by have := hl.out; omega), Sh.prod, Int.mul_one]
            have HZ := Lib.hid hM
            clear hs hM hje
            go_wp2_with (first
              | (at_builtin; refine wpList_append_some _ rfl _ _ 22 rfl w.heap.size 3 i0 (.int .i64 0) 1 8 Try.underlying22 hi hz0 hz1 hz2 rfl (by decide) _ k (((Sh.strides d).take k).map (Value.int .i64)) rfl (GO.out.alloc _) ⟨wr.heap.size, 0, none⟩ 1 1 [.int .i64 M] rfl rfl ?c1 ?c2 ?c3 ?c4 ?c5 ?c6 ?_))
            case c1 => exact new_one _ _ _
            case c2 => intro u hu; simp at hu; subst hu; rfl
            case c3 => unfold maxLen; omega
            case c4 => omega
            case c5 => have := GN.out.size; rw [World.size_alloc]; omega
            case c6 => omega
            intro g c' w2 hown2 hgrow hg hg2
            have GB := Lib.hid (below_app GN.out GN.out.size GO.out hgrow)
            clear hgrow
            go_wp2
            go_roundw
            case rel => exact ⟨k + 1, by omega, by go_num, Sh.app_take hown2 (by have := hl.out; omega) HZ.out, GB.out⟩
            case measure => simp [intOf]; omega
    · have hke : k = len := by omega
      have hown2 := hown
      rw [hke, List.take_of_length_le (by rw [Sh.length_strides]; have := hl.out; omega)] at hown2
      obtain ⟨g, c', hv⟩ := owned_form hown2 (by omega)
      have HR := Lib.hid (by rw [hv] at hown2; exact RowAt.owned hown2 (Sh.strides_wf HY.out) (have := H.out.len_le; this) : RowAt .i64 wr (some ⟨g, 0, none⟩) len (Sh.strides d))
      have GN := Lib.hid hnx
      rw [hv]
      clear hown hown2 hnx hv
      go_wp2
      go_ret
      exact ⟨_, _, rfl, HR.out, GN.out⟩
theorem refStrides_none (a : Option Addr) (len cap : Nat) (d : List Int) (w : World) (h : RowAt .i64 w a len d) (hm : ¬ 0 < Sh.size d) :
    Calls Try.prog 32 #[.slice a len cap] w fun e w' => e = .returned (.slice none 0 0) ∧ w = w' := by
  have hd : decide (0 < Sh.size d) = false := decide_eq_false hm
  have HM := Lib.hid (fun w h => hd ▸ refMay_any a len cap d w h)
  have H := Lib.hid h
  clear h hd hm
  go_enter Try.func32, Try.ntmps32
  go_wp2_with fail
  refine (HM.out _ H.out).mono ?_
  rintro e w' ⟨rfl, rfl⟩
  go_wp2
  go_ret
  exact ⟨rfl, rfl⟩

theorem Sh.horner_step {n x a p q D : Int} (hn : 0 ≤ n) (h0 : 0 ≤ a) (h1 : a < x) (hp : 1 ≤ p) (hq : q = x * p) (hN : n * q + q ≤ D) :
    (n * x + a) * p = n * q + a * p ∧ (n * x + a) * p + p ≤ D ∧ n * x + a ≤ D ∧ 0 ≤ n * x := by
  subst hq
  have e : (n * x + a) * p = n * (x * p) + a * p := by rw [Int.add_mul, Int.mul_assoc]
  have b : (a + 1) * p ≤ x * p := Int.mul_le_mul_of_nonneg_right (by omega) (by omega)
  rw [Int.add_mul, Int.one_mul] at b
  have z : 0 ≤ n * x := Int.mul_nonneg hn (by omega)
  have g : n * x + a ≤ (n * x + a) * p := by
    have := Int.mul_le_mul_of_nonneg_left hp (show 0 ≤ n * x + a by omega)
    omega
  exact ⟨e, by omega, by omega, z⟩
set_option maxHeartbeats 1000000 in
theorem refAt_some (a0 : Option Addr) (len0 cap0 : Nat) (d : List Int) (i : Int) (w : World) (hcap : len0 ≤ cap0) (h0 : RowAt .i64 w a0 len0 d) (h1 : 0 ≤ i) (h2 : i < Sh.size d) :
    Calls Try.prog 15 #[.slice a0 len0 cap0, .int .i64 i] w (GivesRow .i64 len0 (Sh.digits (Sh.strides d) i) w) := by
  have hm : 0 < Sh.size d := by omega
  have my := Sh.may_of hm
  have HZ := Lib.hid (fun w h => refSize_any a0 len0 cap0 d w h)
  have HS := Lib.hid (fun w h => refStrides_some a0 len0 cap0 d w h my hcap)
  have l1 : 1 ≤ len0 := h0.len_eq ▸ my.l1
  have l4 : len0 ≤ 4 := h0.len_eq ▸ my.l4
  have i8 : i ≤ 8192 := by have := my.eq; have := my.le; omega
  have hl := Lib.hid h0.len_eq
  have HY := Lib.hid my
  have H0 := Lib.hid h0
  obtain ⟨i0, hi, hz0, hz1, hz2⟩ := info_parts infoInt
  clear h0 hm my
  go_enter Try.func15, Try.ntmps15
  go_wp2_with fail
  refine (HZ.out _ H0.out).mono ?_
  rintro e w' ⟨rfl, rfl⟩
  go_wp2_with fail
  refine (HS.out _ H0.out).mono ?_
  rintro e w1 ⟨a2, cap2, rfl, hr, hb⟩
  have HR := Lib.hid hr
  have HB := Lib.hid hb
  clear hr hb
  obtain ⟨b2, o2, rfl, e2⟩ := HR.out.cells (by omega)
  have E2 := Lib.hid e2
  clear e2
  go_wp2
  go_loopw [1, 5, 19] (fun I v c wr => ∃ (k : Nat) (J : Int) (D : List Int), k ≤ len0 ∧ 0 ≤ J ∧ J ≤ 8192 ∧ c = .int .i64 k ∧ I = .int .i64 J ∧ D ++ Sh.digits ((Sh.strides d).drop k) J = Sh.digits (Sh.strides d) i ∧ (∀ z ∈ D, (Lit.int .i64 z).wf = true) ∧ wr.ownsRow w1.heap.size 3 1 v k (D.map (Value.int .i64)) ∧ Below w1.heap.size w1 wr) (fun _ _ c _ => len0 - (intOf c).toNat)
  case atStart => exact ⟨0, i, [], Nat.zero_le _, h1, i8, rfl, rfl, rfl, by simp, World.ownsRow_nil _ _ _ _, Below.refl _ _⟩
  case round =>
    obtain ⟨k, J, D, hk, j0, j8, rfl, rfl, hD, hwf, hown, hnx⟩ := hrel
    by_cases hlt : k < len0
    · have f2 := hnx.cell_of (E2.out k hlt)
      rw [Sh.strides_get d k (by have := hl.out; omega)] at f2
      have hp := HY.out.drop_pos (k + 1)
      have hp2 := HY.out.drop_le (k + 1) (by have := hl.out; omega)
      have hst := Sh.digits_step hD (by rw [Sh.length_strides]; have := hl.out; omega)
      rw [Sh.strides_get d k (by have := hl.out; omega)] at hst
      generalize Sh.prod (d.drop (k + 1)) = p at *
      have q0 : 0 ≤ J / p := Int.ediv_nonneg j0 (by omega)
      have q1 : J / p ≤ 8192 := Int.ediv_le_of_le_mul (by omega) (by have := Int.mul_le_mul_of_nonneg_left hp (show (0 : Int) ≤ 8192 by omega); omega)
      have m0 := Int.emod_nonneg J (show p ≠ 0 by omega)
      have m1 := Int.emod_lt_of_pos J (show 0 < p by omega)
      have HST := Lib.hid hst
      have HW := Lib.hid hwf
      have GO := Lib.hid hown
      have GN := Lib.hid hnx
      clear hst hwf hown hnx hD
      go_wp2_with (first
        | (at_builtin; refine wpList_append_some _ rfl _ _ 22 rfl w1.heap.size 3 i0 (.int .i64 0) 1 8 Try.underlying22 hi hz0 hz1 hz2 rfl (by decide) _ k (D.map (Value.int .i64)) rfl (GO.out.alloc _) ⟨wr.heap.size, 0, none⟩ 1 1 [.int .i64 (J / p)] rfl rfl ?c1 ?c2 ?c3 ?c4 ?c5 ?c6 ?_))
      case c1 => exact new_one _ _ _
      case c2 => intro u hu; simp at hu; subst hu; rfl
      case c3 => unfold maxLen; omega
      case c4 => omega
      case c5 => have := GN.out.size; rw [World.size_alloc]; omega
      case c6 => omega
      intro g c' w2 hown2 hgrow hg hg2
      have GB := Lib.hid (below_app GN.out GN.out.size GO.out hgrow)
      have GO2 := Lib.hid (Sh.app_one hown2)
      clear hown2 hgrow
      go_wp2
      go_roundw
      case rel => exact ⟨k + 1, J % p, D ++ [J / p], by omega, m0, by omega, by go_num, rfl, HST.out, fun z hz => by rcases List.mem_append.1 hz with hz | hz; exact HW.out z hz; (simp at hz; subst hz; exact WalkArith.wf_i64 (by omega)), GO2.out, GB.out⟩
      case measure => simp [intOf]; omega
    · have hke : k = len0 := by omega
      obtain ⟨g, c', hv⟩ := owned_form hown (by omega)
      have hD2 : D = Sh.digits (Sh.strides d) i := by
        rw [hke, List.drop_of_length_le (by rw [Sh.length_strides]; have := hl.out; omega)] at hD
        simpa [Sh.digits] using hD
      have HO := Lib.hid (by rw [hv] at hown; exact RowAt.owned hown hwf (by omega) : RowAt .i64 wr (some ⟨g, 0, none⟩) k D)
      have GN := Lib.hid hnx
      have HD2 := Lib.hid hD2
      rw [hv]
      clear hown hnx hwf hv hD hD2
      go_wp2
      go_ret
      obtain rfl : k = len0 := by omega
      exact ⟨_, c', rfl, HD2.out ▸ HO.out, HB.out.trans (GN.out.mono HB.out.size)⟩

theorem refAt_none (a0 : Option Addr) (len0 cap0 : Nat) (d : List Int) (i : Int) (w : World) (h0 : RowAt .i64 w a0 len0 d) (h : ¬ (0 ≤ i ∧ i < Sh.size d)) :
    Calls Try.prog 15 #[.slice a0 len0 cap0, .int .i64 i] w fun e w' => e = .returned (.slice none 0 0) ∧ w = w' := by
  have HZ := Lib.hid (fun w h => refSize_any a0 len0 cap0 d w h)
  have H0 := Lib.hid h0
  clear h0
  have cs : i < 0 ∨ (0 ≤ i ∧ Sh.size d ≤ i) := by omega
  clear h
  rcases cs with c | ⟨c1, c2⟩
  · go_enter Try.func15, Try.ntmps15
    go_wp2
    go_ret
    exact ⟨rfl, rfl⟩
  · go_enter Try.func15, Try.ntmps15
    go_wp2_with fail
    refine (HZ.out _ H0.out).mono ?_
    rintro e w' ⟨rfl, rfl⟩
    go_wp2
    go_ret
    exact ⟨rfl, rfl⟩
theorem refOut_yes (n k s p : Int) (w : World) (h : OutOk n k s p) : Calls Try.prog 17 #[.int .i64 n, .int .i64 k, .int .i64 s, .int .i64 p] w fun e w' => e = .returned (.int .i64 ((n + 2 * p - k) / s + 1)) ∧ w = w' := by
  obtain ⟨h1, h2, h3, h4, h5, h6, h7, h8, h9⟩ := h
  have d0 : 0 ≤ (n + 2 * p - k) / s := Int.ediv_nonneg (by omega) (by omega)
  have d1 : (n + 2 * p - k) / s ≤ 100 := by
    apply Int.ediv_le_of_le_mul (by omega)
    omega
  go_enter Try.func17, Try.ntmps17
  go_wp2
  go_ret
  exact ⟨rfl, rfl⟩
set_option maxHeartbeats 4000000 in
theorem refOut_no (n k s p : Int) (w : World) (h : ¬ OutOk n k s p) : Calls Try.prog 17 #[.int .i64 n, .int .i64 k, .int .i64 s, .int .i64 p] w fun e w' => e = .returned (.int .i64 0) ∧ w = w' := by
  have cs : n < 1 ∨ (1 ≤ n ∧ 16 < n) ∨ (1 ≤ n ∧ n ≤ 16 ∧ k < 1) ∨ (1 ≤ n ∧ n ≤ 16 ∧ 1 ≤ k ∧ 5 < k) ∨ (1 ≤ n ∧ n ≤ 16 ∧ 1 ≤ k ∧ k ≤ 5 ∧ s < 1) ∨ (1 ≤ n ∧ n ≤ 16 ∧ 1 ≤ k ∧ k ≤ 5 ∧ 1 ≤ s ∧ 4 < s) ∨ (1 ≤ n ∧ n ≤ 16 ∧ 1 ≤ k ∧ k ≤ 5 ∧ 1 ≤ s ∧ s ≤ 4 ∧ p < 0) ∨ (1 ≤ n ∧ n ≤ 16 ∧ 1 ≤ k ∧ k ≤ 5 ∧ 1 ≤ s ∧ s ≤ 4 ∧ 0 ≤ p ∧ k ≤ p) ∨ (1 ≤ n ∧ n ≤ 16 ∧ 1 ≤ k ∧ k ≤ 5 ∧ 1 ≤ s ∧ s ≤ 4 ∧ 0 ≤ p ∧ p < k ∧ n + 2 * p < k) := by
    unfold OutOk at h; omega
  clear h
  rcases cs with h | ⟨h1, h⟩ | ⟨h1, h2, h⟩ | ⟨h1, h2, h3, h⟩ | ⟨h1, h2, h3, h4, h⟩ | ⟨h1, h2, h3, h4, h5, h⟩ | ⟨h1, h2, h3, h4, h5, h6, h⟩ | ⟨h1, h2, h3, h4, h5, h6, h7, h⟩ | ⟨h1, h2, h3, h4, h5, h6, h7, h8, h⟩
  all_goals
    go_enter Try.func17, Try.ntmps17
    go_wp2
    go_ret
    exact ⟨rfl, rfl⟩
theorem refOut_any (n k s p : Int) (w : World) : Calls Try.prog 17 #[.int .i64 n, .int .i64 k, .int .i64 s, .int .i64 p] w fun e w' => e = .returned (.int .i64 (outW n k s p)) ∧ w = w' := by
  unfold outW
  split
  · exact refOut_yes n k s p w ‹_›
  · exact refOut_no n k s p w ‹_›

end Go.Proofs.Ytaijiihlkcbdhaa
