/-
  The walks of shape.Size, May, Strides, Index, At, Same.
-/
import Derived.Test.YtaijiihlkcbdhaaShapeOut
import Derived.BigRegion
namespace Go.Proofs.Ytaijiihlkcbdhaa
open Go.RowKit
set_option linter.unusedVariables false

namespace Sh
/-- The product as Size takes it, from n on. -/
def szTo (n : Int) : List Int → Int
  | [] => n
  | x :: l => if x < 1 ∨ 4096 < x ∨ 8192 < n * x then 0 else szTo (n * x) l
def size (d : List Int) : Int := if d.length < 1 ∨ 4 < d.length then 0 else szTo 1 d
theorem drop_cons (d : List Int) (k : Nat) (h : k < d.length) : d.drop k = d.getD k 0 :: d.drop (k + 1) := by
  rw [List.drop_eq_getElem_cons h]; simp [List.getD, List.getElem?_eq_getElem h]
theorem szTo_no {n x : Int} {l : List Int} (h : x < 1 ∨ 4096 < x ∨ 8192 < n * x) : szTo n (x :: l) = 0 := by simp [szTo, h]
theorem szTo_yes {n x : Int} {l : List Int} (h : ¬ (x < 1 ∨ 4096 < x ∨ 8192 < n * x)) : szTo n (x :: l) = szTo (n * x) l := by simp [szTo, h]
theorem mul_bound {n x : Int} (h1 : 1 ≤ n) (h2 : n ≤ 8192) (h3 : 1 ≤ x) (h4 : x ≤ 4096) : 1 ≤ n * x ∧ n * x ≤ 33554432 := by
  have a : n * x ≤ 8192 * x := Int.mul_le_mul_of_nonneg_right h2 (by omega)
  have b : 1 * x ≤ n * x := Int.mul_le_mul_of_nonneg_right h1 (by omega)
  omega
end Sh

set_option maxHeartbeats 400000 in
theorem size_some (a : Option Addr) (len cap : Nat) (zs : List Int) (w : World) (h : RowAt .i64 w a len zs) (h1 : 1 ≤ len) (h4 : len ≤ 4) :
    Calls Try.prog 33 #[.slice a len cap] w fun e w' => e = .returned (.int .i64 (Sh.szTo 1 zs)) ∧ w = w' := by
  obtain ⟨b, off, rfl, hc⟩ := h.cells (by omega)
  have hl := Lib.hid h.len_eq
  have HC := Lib.hid hc
  clear h hc
  go_enter Try.func33, Try.ntmps33
  go_wp2
  go_loop [3, 16] (fun n i => ∃ (k : Nat) (N : Int), k ≤ len ∧ 1 ≤ N ∧ N ≤ 8192 ∧ i = .int .i64 k ∧ n = .int .i64 N ∧ Sh.szTo N (zs.drop k) = Sh.szTo 1 zs) (fun _ i => len - (intOf i).toNat)
  case atStart => exact ⟨0, 1, Nat.zero_le _, by omega, by omega, rfl, rfl, rfl⟩
  case round =>
    obtain ⟨k, N, hk, n1, n2, rfl, rfl, hs⟩ := hrel
    by_cases hlt : k < len
    · have hck := HC.out k hlt
      rw [Sh.drop_cons zs k (by have := hl.out; omega)] at hs
      generalize zs.getD k 0 = x at *
      by_cases c1 : x < 1
      · rw [Sh.szTo_no (Or.inl c1)] at hs
        have HS := Lib.hid hs
        clear hs
        go_wp2
        go_ret
        exact ⟨ret_int HS.out, rfl⟩
      · by_cases c2 : 4096 < x
        · rw [Sh.szTo_no (Or.inr (Or.inl c2))] at hs
          have HS := Lib.hid hs
          clear hs
          go_wp2
          go_ret
          exact ⟨ret_int HS.out, rfl⟩
        · obtain ⟨m1, m2⟩ := Sh.mul_bound n1 n2 (show 1 ≤ x by omega) (show x ≤ 4096 by omega)
          by_cases c3 : 8192 < N * x
          · rw [Sh.szTo_no (Or.inr (Or.inr c3))] at hs
            have HS := Lib.hid hs
            clear hs
            go_wp2
            go_ret
            exact ⟨ret_int HS.out, rfl⟩
          · rw [Sh.szTo_yes (by omega)] at hs
            have HS := Lib.hid hs
            clear hs
            go_wp2
            go_round
            case rel => exact ⟨k + 1, N * x, by omega, m1, by omega, by go_num, rfl, HS.out⟩
            case measure => simp [intOf]; omega
    · have hke : k = len := by omega
      have HS := Lib.hid (by rw [hke, List.drop_of_length_le (by have := hl.out; omega)] at hs; exact hs : Sh.szTo N [] = Sh.szTo 1 zs)
      clear hs hke
      go_wp2
      go_ret
      exact ⟨ret_int HS.out, rfl⟩
theorem size_none (a : Option Addr) (len cap : Nat) (w : World) (h : len < 1 ∨ 4 < len) (hb : len ≤ 140737488351232) :
    Calls Try.prog 33 #[.slice a len cap] w fun e w' => e = .returned (.int .i64 0) ∧ w = w' := by
  rcases h with h | h
  all_goals
    go_enter Try.func33, Try.ntmps33
    go_wp2
    go_ret
    exact ⟨rfl, rfl⟩
theorem size_any (a : Option Addr) (len cap : Nat) (zs : List Int) (w : World) (h : RowAt .i64 w a len zs) :
    Calls Try.prog 33 #[.slice a len cap] w fun e w' => e = .returned (.int .i64 (Sh.size zs)) ∧ w = w' := by
  unfold Sh.size
  rw [h.len_eq]
  by_cases c : len < 1 ∨ 4 < len
  · rw [if_pos c]; exact size_none a len cap w c h.len_le
  · rw [if_neg c]; exact size_some a len cap zs w h (by omega) (by omega)
theorem may_any (a : Option Addr) (len cap : Nat) (zs : List Int) (w : World) (h : RowAt .i64 w a len zs) :
    Calls Try.prog 35 #[.slice a len cap] w fun e w' => e = .returned (.bool (decide (0 < Sh.size zs))) ∧ w = w' := by
  have H := Lib.hid h
  clear h
  go_enter Try.func35, Try.ntmps35
  go_wp2_with fail
  refine (size_any _ _ _ _ _ H.out).mono ?_
  rintro e w' ⟨rfl, rfl⟩
  go_wp2
  go_ret
  exact ⟨rfl, rfl⟩

namespace Sh
def prod : List Int → Int
  | [] => 1
  | x :: l => x * prod l
theorem szTo_pos : ∀ (l : List Int) (n : Int), 1 ≤ n → n ≤ 8192 → 0 < szTo n l → szTo n l = n * prod l ∧ (∀ x ∈ l, 1 ≤ x ∧ x ≤ 4096) ∧ n * prod l ≤ 8192
  | [], n, _, h, _ => by simp [szTo, prod]; omega
  | x :: l, n, h1, h2, h => by
    by_cases c : x < 1 ∨ 4096 < x ∨ 8192 < n * x
    · rw [szTo_no c] at h; omega
    · rw [szTo_yes c] at h ⊢
      have m := mul_bound h1 h2 (show 1 ≤ x by omega) (show x ≤ 4096 by omega)
      obtain ⟨e, hx, hb⟩ := szTo_pos l (n * x) m.1 (by omega) h
      refine ⟨by rw [e, prod, Int.mul_assoc], fun y hy => ?_, by rw [prod, ← Int.mul_assoc]; exact hb⟩
      rcases List.mem_cons.1 hy with rfl | hy
      · omega
      · exact hx y hy
theorem prod_pos : ∀ (l : List Int), (∀ x ∈ l, 1 ≤ x) → 1 ≤ prod l
  | [], _ => by simp [prod]
  | x :: l, h => by
    have a := h x (by simp)
    have b := prod_pos l fun y hy => h y (by simp [hy])
    rw [prod]
    have := Int.mul_le_mul_of_nonneg_right a (show 0 ≤ prod l by omega)
    omega
/-- What may be. -/
structure May (d : List Int) : Prop where
  l1 : 1 ≤ d.length
  l4 : d.length ≤ 4
  eq : size d = prod d
  each : ∀ x ∈ d, 1 ≤ x ∧ x ≤ 4096
  le : prod d ≤ 8192
theorem may_of {d : List Int} (h : 0 < size d) : May d := by
  unfold size at h
  split at h
  · omega
  · rename_i c
    obtain ⟨e, hx, hb⟩ := szTo_pos d 1 (by omega) (by omega) h
    rw [Int.one_mul] at e hb
    exact ⟨by omega, by omega, by unfold size; rw [if_neg c, e], hx, hb⟩
theorem May.one {d : List Int} (h : May d) : 1 ≤ prod d := prod_pos d fun x hx => (h.each x hx).1
theorem May.pos {d : List Int} (h : May d) : 0 < size d := by rw [h.eq]; have := h.one; omega
theorem prod_drop_succ (d : List Int) (k : Nat) (h : k < d.length) : prod (d.drop k) = d.getD k 0 * prod (d.drop (k + 1)) := by rw [drop_cons d k h]; rfl
theorem May.drop_pos {d : List Int} (h : May d) (k : Nat) : 1 ≤ prod (d.drop k) := prod_pos _ fun x hx => (h.each x (List.mem_of_mem_drop hx)).1
theorem prod_le_mul {x y : Int} (h1 : 1 ≤ x) (h2 : 1 ≤ y) : y ≤ x * y := by
  have := Int.mul_le_mul_of_nonneg_right h1 (show 0 ≤ y by omega)
  omega
theorem May.get {d : List Int} (h : May d) {k : Nat} (hk : k < d.length) : 1 ≤ d.getD k 0 ∧ d.getD k 0 ≤ 4096 := h.each _ (by simp [List.getD, List.getElem?_eq_getElem hk])
theorem May.drop_le {d : List Int} (h : May d) : ∀ k, k ≤ d.length → prod (d.drop k) ≤ 8192
  | 0, _ => by simpa using h.le
  | k + 1, hk => by
    have a := h.drop_le k (by omega)
    rw [prod_drop_succ d k (by omega)] at a
    have := prod_le_mul (h.get (show k < d.length by omega)).1 (h.drop_pos (k + 1))
    omega
/-- Of each length the product of those behind it. -/
def strides (d : List Int) : List Int := (List.range d.length).map fun i => prod (d.drop (i + 1))
/-- .. of which the last k are made. -/
def stridesTo (d : List Int) (k : Nat) : List Int := (List.range d.length).map fun i => if d.length ≤ i + k then prod (d.drop (i + 1)) else 0
theorem length_stridesTo (d : List Int) (k : Nat) : (stridesTo d k).length = d.length := by simp [stridesTo]
theorem length_strides (d : List Int) : (strides d).length = d.length := by simp [strides]
theorem stridesTo_all (d : List Int) : stridesTo d d.length = strides d := by
  apply List.map_congr_left
  intro i _
  rw [if_pos (by omega)]
theorem stridesTo_set (d : List Int) (k i : Nat) (h : i + k + 1 = d.length) : (stridesTo d k).set i (prod (d.drop (d.length - k))) = stridesTo d (k + 1) := by
  apply List.ext_getElem
  · simp [stridesTo]
  · intro j h1 h2
    rw [List.getElem_set]
    simp only [stridesTo, List.getElem_map, List.getElem_range]
    by_cases c : i = j
    · subst c
      rw [if_pos rfl, if_pos (by omega), show d.length - k = i + 1 by omega]
    · rw [if_neg c]
      by_cases c' : d.length ≤ j + k
      · rw [if_pos c', if_pos (by omega)]
      · rw [if_neg c', if_neg (by omega)]
theorem strides_wf {d : List Int} (h : May d) : ∀ z ∈ strides d, (Lit.int .i64 z).wf = true := by
  intro z hz
  obtain ⟨i, hi, rfl⟩ := List.mem_map.1 hz
  have := h.drop_le (i + 1) (by have := List.mem_range.1 hi; omega)
  have := h.drop_pos (i + 1)
  exact WalkArith.wf_i64 (by omega)
theorem made_strides (d : List Int) (n : Nat) (h : d.length = n) : (madeCells #[Value.int IntKind.i64 0] n).toList = (stridesTo d 0).map (Value.int .i64) := by
  rw [toList_madeCells_one]
  apply List.ext_getElem
  · simp [stridesTo, h]
  · intro i h1 h2
    simp [stridesTo] at h1 h2 ⊢
    omega
theorem strides_step {w : World} {B n i k : Nat} {d : List Int} {N : Int} (h : w.ownsRow B 3 1 (.slice (some ⟨B, 0, none⟩) n n) n ((stridesTo d k).map (Value.int .i64))) (hl : d.length = n) (hi : i + k + 1 = n) (hN : N = prod (d.drop (n - k))) :
    (w.setCell ⟨B, i, none⟩ (.int .i64 N)).ownsRow B 3 1 (.slice (some ⟨B, 0, none⟩) n n) n ((stridesTo d (k + 1)).map (Value.int .i64)) := by
  subst hN hl
  have := (h.stored i (.int .i64 (prod (d.drop (d.length - k))))).1
  rw [← List.map_set, stridesTo_set d k i hi] at this
  exact this
end Sh

theorem infoInt : (Try.prog.info? 3).map (fun i => (i.zero, i.size, i.bytes)) = some (some (.int .i64 0), 1, 8) := by kernel_rfl

namespace Sh
theorem strides_get (d : List Int) (k : Nat) (h : k < d.length) : (strides d).getD k 0 = prod (d.drop (k + 1)) := by
  simp [strides, List.getD, h]
/-- The number of a place, from n on. -/
def idx (n : Int) : List Int → List Int → Int
  | x :: d, a :: t => if a < 0 ∨ x ≤ a then -1 else idx (n + a * prod d) d t
  | _, _ => n
def index (d at' : List Int) : Int := if 0 < size d ∧ d.length = at'.length then idx 0 d at' else -1
theorem idx_no {n x a : Int} {d t : List Int} (h : a < 0 ∨ x ≤ a) : idx n (x :: d) (a :: t) = -1 := by simp [idx, h]
theorem idx_yes {n x a : Int} {d t : List Int} (h : ¬ (a < 0 ∨ x ≤ a)) : idx n (x :: d) (a :: t) = idx (n + a * prod d) d t := by simp [idx, h]
theorem idx_step {N x a p q : Int} (h0 : 0 ≤ a) (h1 : a < x) (hp : 1 ≤ p) (hq : q = x * p) : 0 ≤ a * p ∧ a * p + p ≤ q := by
  have e : a * p + p = (a + 1) * p := by rw [Int.add_mul, Int.one_mul]
  have b : (a + 1) * p ≤ x * p := Int.mul_le_mul_of_nonneg_right (by omega) (by omega)
  exact ⟨Int.mul_nonneg h0 (by omega), by omega⟩
end Sh

namespace Sh
/-- What is left of a number, stride by stride. -/
def digits : List Int → Int → List Int
  | [], _ => []
  | s :: l, i => i / s :: digits l (i % s)
def at' (d : List Int) (i : Int) : List Int := if 0 ≤ i ∧ i < size d then digits (strides d) i else []
theorem length_digits : ∀ (l : List Int) (i : Int), (digits l i).length = l.length
  | [], _ => rfl
  | _ :: l, i => by simp [digits, length_digits l]
theorem digits_step {D l : List Int} {I : Int} {k : Nat} {R : List Int} (h : D ++ digits (l.drop k) I = R) (hk : k < l.length) : (D ++ [I / l.getD k 0]) ++ digits (l.drop (k + 1)) (I % l.getD k 0) = R := by
  rw [drop_cons l k hk, digits] at h
  rw [List.append_assoc]
  exact h
theorem app_one {w' : World} {base g n c' : Nat} {D : List Int} {q : Int} (h : w'.ownsRow base 3 1 (.slice (some ⟨g, 0, none⟩) (n + 1) c') (n + 1) (D.map (Value.int .i64) ++ [.int .i64 q])) :
    w'.ownsRow base 3 1 (.slice (some ⟨g, 0, none⟩) (n + 1) c') (n + 1) ((D ++ [q]).map (Value.int .i64)) := by
  rw [List.map_append]; exact h
end Sh

namespace Sh
theorem szTo_nonneg : ∀ (l : List Int) (n : Int), 0 ≤ n → 0 ≤ szTo n l
  | [], n, h => h
  | x :: l, n, h => by
    by_cases c : x < 1 ∨ 4096 < x ∨ 8192 < n * x
    · rw [szTo_no c]; omega
    · rw [szTo_yes c]; exact szTo_nonneg l _ (Int.mul_nonneg h (by omega))
theorem size_zero {d : List Int} (h : ¬ 0 < size d) : size d = 0 := by
  have : 0 ≤ size d := by
    unfold size; split
    · omega
    · exact szTo_nonneg d 1 (by omega)
  omega
end Sh
theorem Sh.ext_getD {xs ys : List Int} (hl : xs.length = ys.length) (h : ∀ j, j < xs.length → xs.getD j 0 = ys.getD j 0) : xs = ys := by
  apply List.ext_getElem hl
  intro i hi hj
  have := h i hi
  simpa [List.getD, List.getElem?_eq_getElem hi, List.getElem?_eq_getElem hj] using this

set_option maxHeartbeats 400000 in
theorem equal_same (a0 : Option Addr) (len0 cap0 : Nat) (xs : List Int) (a1 : Option Addr) (cap1 : Nat) (ys : List Int) (w : World) (h0 : RowAt .i64 w a0 len0 xs) (h1 : RowAt .i64 w a1 len0 ys) :
    Calls Try.prog 47 #[.slice a0 len0 cap0, .slice a1 len0 cap1] w (Gives (.bool (decide (xs = ys))) w) := by
  obtain ⟨B, hB⟩ : ∃ B, decide (xs = ys) = B := ⟨_, rfl⟩
  have HB := Lib.hid hB
  rw [hB]
  clear hB
  have H0 := Lib.hid h0
  have H1 := Lib.hid h1
  have hl := h0.len_le
  have L0 := Lib.hid h0.len_eq
  have L1 := Lib.hid h1.len_eq
  have hb : ((len0 : Int) != (len0 : Int)) = false := by simp
  clear h0 h1
  go_enter Try.func47, Try.ntmps47
  go_wp2
  go_loopw [13] (fun i wr => ∃ k q : Nat, k ≤ len0 ∧ i = .int .i64 k ∧ (∀ j, j < k → xs.getD j 0 = ys.getD j 0) ∧ wr = w.drewN q) (fun i _ => len0 - (intOf i).toNat)
  case atStart => exact ⟨0, 0, Nat.zero_le _, rfl, fun j hj => by omega, rfl⟩
  case round =>
    obtain ⟨k, q, hk, rfl, hs, rfl⟩ := hrel
    have HS := Lib.hid hs
    clear hs
    by_cases hlt : k < len0
    · obtain ⟨b0, o0, rfl, e0⟩ := H0.out.cells (by omega)
      obtain ⟨b1, o1, rfl, e1⟩ := H1.out.cells (by omega)
      have f0 := e0 k hlt
      have f1 := e1 k hlt
      clear e0 e1
      generalize hx : xs.getD k 0 = x at *
      generalize hy : ys.getD k 0 = y at *
      have HX := Lib.hid hx
      have HY := Lib.hid hy
      clear hx hy
      by_cases c : x = y
      · subst c
        have c2 : (x != x) = false := by simp
        go_wp2
        go_quiet (fail)
        go_wp2
        go_roundw
        case rel => exact ⟨k + 1, q + nq, by omega, by go_num, fun j hj => by (by_cases c : j = k); (subst c; exact HX.out.trans HY.out.symm); exact HS.out j (by omega), rfl⟩
        case measure => simp [intOf]; omega
      · have c2 : (x != y) = true := by rw [bne_iff_ne]; exact c
        have HC := Lib.hid c
        clear c
        go_wp2
        go_quiet (fail)
        go_wp2
        go_ret
        exact ⟨ret_bool (by rw [← HB.out]; exact (decide_eq_false fun e => HC.out (by rw [← HX.out, ← HY.out, e])).symm), q + nq, World.drewN_drewN _ _ _⟩
    · go_wp2
      go_ret
      exact ⟨ret_bool (by rw [← HB.out]; exact (decide_eq_true (Sh.ext_getD (L0.out.trans L1.out.symm) fun j hj => HS.out j (by have := L0.out; omega))).symm), q, rfl⟩
theorem equal_any (a0 : Option Addr) (len0 cap0 : Nat) (xs : List Int) (a1 : Option Addr) (len1 cap1 : Nat) (ys : List Int) (w : World) (h0 : RowAt .i64 w a0 len0 xs) (h1 : RowAt .i64 w a1 len1 ys) :
    Calls Try.prog 47 #[.slice a0 len0 cap0, .slice a1 len1 cap1] w (Gives (.bool (decide (xs = ys))) w) := by
  by_cases c : len0 = len1
  · subst c; exact equal_same a0 len0 cap0 xs a1 cap1 ys w h0 h1
  · have e : decide (xs = ys) = false := decide_eq_false fun e => c (by rw [← h0.len_eq, ← h1.len_eq, e])
    rw [e]
    have l0 := h0.len_le
    have l1 := h1.len_le
    have hb : ((len0 : Int) != (len1 : Int)) = true := by rw [bne_iff_ne]; omega
    clear h0 h1 e c
    go_enter Try.func47, Try.ntmps47
    go_wp2
    go_ret
    exact ⟨rfl, 0, rfl⟩
theorem shapeSame_any (a0 : Option Addr) (len0 cap0 : Nat) (xs : List Int) (a1 : Option Addr) (len1 cap1 : Nat) (ys : List Int) (w : World) (h0 : RowAt .i64 w a0 len0 xs) (h1 : RowAt .i64 w a1 len1 ys) :
    Calls Try.prog 36 #[.slice a0 len0 cap0, .slice a1 len1 cap1] w (Gives (.bool (decide (xs = ys))) w) := by
  have H0 := Lib.hid h0
  have H1 := Lib.hid h1
  obtain ⟨B, hB⟩ : ∃ B, decide (xs = ys) = B := ⟨_, rfl⟩
  have HE := Lib.hid (fun w h0 h1 => hB ▸ equal_any a0 len0 cap0 xs a1 len1 cap1 ys w h0 h1)
  rw [hB]
  clear h0 h1 hB
  go_enter Try.func36, Try.ntmps36
  go_wp2_with fail
  refine (HE.out _ H0.out H1.out).mono ?_
  rintro e w' ⟨rfl, n, rfl⟩
  go_wp2
  go_ret
  exact ⟨rfl, n, rfl⟩
end Go.Proofs.Ytaijiihlkcbdhaa
