/-
  The walk of ShapeRows: places in rising order have rising numbers; the last stride is one; a length of one changes nothing.
-/
import Derived.Test.YtmebchgjofpepaaShapeLaws
namespace Go.Proofs.Ytmebchgjofpepaa
open Go.RowKit
set_option linter.unusedVariables false

namespace Sh
theorem idx_range : ∀ (d t : List Int) (M : Int), d.length = t.length → (∀ x ∈ d, 1 ≤ x) → (∀ k, k < d.length → 0 ≤ t.getD k 0 ∧ t.getD k 0 < d.getD k 0) → M ≤ idx M d t ∧ idx M d t < M + prod d
  | [], [], M, _, _, _ => by simp [idx, prod]; omega
  | x :: d, a :: t, M, hl, hx, hr => by
    have h0 := hr 0 (by simp)
    simp at h0
    have hd : ∀ y ∈ d, 1 ≤ y := fun y hy => hx y (by simp [hy])
    have hp := prod_pos d hd
    obtain ⟨i1, i2⟩ := idx_range d t (M + a * prod d) (by simpa using hl) hd fun k hk => by
      have := hr (k + 1) (by simpa using hk)
      simpa using this
    rw [idx_yes (by omega), prod]
    have s := idx_step (N := M) h0.1 h0.2 hp rfl
    omega
  | [], _ :: _, _, hl, _, _ => by simp at hl
  | _ :: _, [], _, hl, _, _ => by simp at hl
theorem rise_step {N a b p T U : Int} (hp : 1 ≤ p) (h1 : N + a * p ≤ T) (h2 : T < N + a * p + p) (h3 : N + b * p ≤ U) (h4 : U < N + b * p + p) (h : a < b) : T < U := by
  have : (a + 1) * p ≤ b * p := Int.mul_le_mul_of_nonneg_right (by omega) (by omega)
  rw [Int.add_mul, Int.one_mul] at this
  omega
theorem size_one {d : List Int} (h : May d) (h4 : d.length < 4) : size (1 :: d) = size d := by
  have l1 := h.l1
  unfold size
  rw [if_neg (by simp; omega), if_neg (by omega), szTo_yes (by omega)]
  rfl
theorem index_one {d t : List Int} (h : May d) (h4 : d.length < 4) (hl : d.length = t.length) (T : Int) (hi : idx 0 d t = T) : index (1 :: d) (0 :: t) = T := by
  unfold index
  rw [if_pos ⟨by rw [size_one h h4]; exact h.pos, by simp [hl]⟩, idx_yes (by omega), Int.zero_mul, Int.add_zero, hi]
theorem last_stride {d : List Int} (h : 1 ≤ d.length) : (strides d).getD (d.length - 1) 0 = 1 := by
  rw [strides_get d _ (by omega), show d.length - 1 + 1 = d.length by omega, List.drop_length]; rfl
theorem first_stride {d : List Int} (h : 1 ≤ d.length) : (strides d).getD 0 0 * d.getD 0 0 = prod d := by
  rw [strides_get d _ (by omega), Int.mul_comm, ← prod_drop_succ d 0 (by omega), List.drop_zero]
end Sh

theorem wf_cons {k : IntKind} {z : Int} {zs : List Int} (h : (Lit.int k z).wf = true) (hs : ∀ x ∈ zs, (Lit.int k x).wf = true) : ∀ x ∈ z :: zs, (Lit.int k x).wf = true := by
  intro x hx
  rcases List.mem_cons.1 hx with rfl | hx
  · exact h
  · exact hs x hx
theorem shapeRows_no (a0 : Option Addr) (len0 cap0 : Nat) (d : List Int) (a1 a2 : Int) (w : World) (h0 : RowAt .i64 w a0 len0 d) (hm : ¬ 0 < Sh.size d) :
    Calls Try.prog 9 #[.slice a0 len0 cap0, .int .i64 a1, .int .i64 a2] w fun e w' => e = .returned (.bool true) ∧ Below w.heap.size w w' := by
  have hd : decide (0 < Sh.size d) = false := decide_eq_false hm
  have hz := Sh.size_zero hm
  have HM := Lib.hid (fun w h => hd ▸ may_any a0 len0 cap0 d w h)
  have HZ := Lib.hid (fun w h => hz ▸ size_any a0 len0 cap0 d w h)
  have H0 := Lib.hid h0
  clear h0 hm hd hz
  go_enter Try.func9, Try.ntmps9
  go_wp2_with fail
  refine (HZ.out _ H0.out).mono ?_
  rintro e w' ⟨rfl, rfl⟩
  go_wp2_with fail
  refine (HM.out _ H0.out).mono ?_
  rintro e w' ⟨rfl, rfl⟩
  go_wp2_with fail
  refine (HM.out _ H0.out).mono ?_
  rintro e w' ⟨rfl, rfl⟩
  go_wp2_with (go_at_call 11; refine (awake7_any _).mono ?_; rintro e w2 ⟨rfl, hb2⟩)
  go_ret
  exact ⟨rfl, hb2⟩
set_option maxRecDepth 100000 in
set_option maxHeartbeats 4000000 in
theorem shapeRows_yes (a0 : Option Addr) (len0 cap0 : Nat) (d : List Int) (a1 a2 : Int) (w : World) (h0 : RowAt .i64 w a0 len0 d) (hm : 0 < Sh.size d) :
    Calls Try.prog 9 #[.slice a0 len0 cap0, .int .i64 a1, .int .i64 a2] w fun e w' => e = .returned (.bool true) ∧ Below w.heap.size w w' := by
  have hd : decide (0 < Sh.size d) = true := decide_eq_true hm
  have my := Sh.may_of hm
  have HM := Lib.hid (fun w h => hd ▸ may_any a0 len0 cap0 d w h)
  obtain ⟨S, hS⟩ := Int.eq_ofNat_of_zero_le (show 0 ≤ Sh.size d by omega)
  have HZ := Lib.hid (fun w h => hS ▸ size_any a0 len0 cap0 d w h)
  have s1 : 1 ≤ S := by omega
  have s8 : S ≤ 8192 := by have := my.le; rw [← my.eq] at this; omega
  have l1 : 1 ≤ len0 := h0.len_eq ▸ my.l1
  have l4 : len0 ≤ 4 := h0.len_eq ▸ my.l4
  obtain ⟨T, hT, eT⟩ := umod_ex a1 S (by omega)
  obtain ⟨U, hU, eU⟩ := umod_ex a2 S (by omega)
  have hTs : (T : Int) < Sh.prod d := by rw [← my.eq]; omega
  have hUs : (U : Int) < Sh.prod d := by rw [← my.eq]; omega
  have HA := Lib.hid (fun w h => at_some a0 len0 cap0 d T w h (by omega) (by rw [my.eq]; exact hTs))
  have HB := Lib.hid (fun w h => at_some a0 len0 cap0 d U w h (by omega) (by rw [my.eq]; exact hUs))
  have HS := Lib.hid (fun w h => strides_some a0 len0 cap0 d w h my)
  obtain ⟨g1, g2⟩ := Sh.digits_spec d my.ge T (by omega) hTs
  obtain ⟨k1, k2⟩ := Sh.digits_spec d my.ge U (by omega) hUs
  obtain ⟨D, hD⟩ : ∃ D, Sh.digits (Sh.strides d) T = D := ⟨_, rfl⟩
  obtain ⟨E, hE⟩ : ∃ E, Sh.digits (Sh.strides d) U = E := ⟨_, rfl⟩
  rw [hD] at HA g1 g2
  rw [hE] at HB k1 k2
  have hi0 : Sh.idx 0 d D = T := by rw [g2]; omega
  have hj0 : Sh.idx 0 d E = U := by rw [k2]; omega
  have G1 := Lib.hid g1
  have K1 := Lib.hid k1
  have HI0 := Lib.hid hi0
  have HJ0 := Lib.hid hj0
  have hl := Lib.hid h0.len_eq
  have HY := Lib.hid my
  have H0 := Lib.hid h0
  have HP := Lib.hid (hS.symm.trans my.eq : (S : Int) = Sh.prod d)
  have HC1 := Lib.hid (fun h : len0 < 4 => decide_eq_true (by rw [Sh.size_one my (by rw [h0.len_eq]; exact h)]; exact hm) : len0 < 4 → decide (0 < Sh.size (1 :: d)) = true)
  have HC2 := Lib.hid (fun h : len0 < 4 => (Sh.size_one my (by rw [h0.len_eq]; exact h)).trans hS : len0 < 4 → Sh.size (1 :: d) = (S : Int))
  have HC3 := Lib.hid (fun h : len0 < 4 => Sh.index_one my (by rw [h0.len_eq]; exact h) (by rw [← hD, Sh.length_digits, Sh.length_strides]) T hi0 : len0 < 4 → Sh.index (1 :: d) (0 :: D) = T)
  clear h0 hm hd my g1 g2 k1 k2 hD hE hi0 hj0 hTs hUs hS
  go_enter Try.func9, Try.ntmps9
  go_wp2_with fail
  refine (HZ.out _ H0.out).mono ?_
  rintro e w' ⟨rfl, rfl⟩
  go_wp2_with fail
  refine (HM.out _ H0.out).mono ?_
  rintro e w' ⟨rfl, rfl⟩
  go_wp2_with fail
  go_quiet (fail)
  have H1 := Lib.hid (H0.out.below (below_drewN w nq))
  have B1 := Lib.hid (below_drewN w nq)
  generalize w.drewN nq = w1 at *
  go_wp2_with fail
  refine (HA.out _ H1.out).mono ?_
  rintro e w2 ⟨b1, cap1, rfl, hr, hb⟩
  have H2 := Lib.hid (H1.out.below hb)
  have B2 := Lib.hid (B1.out.step hb)
  have R2 := Lib.hid hr
  clear hr hb
  go_wp2_with fail
  refine (HB.out _ H2.out).mono ?_
  rintro e w3 ⟨b2, cap2, rfl, hr, hb⟩
  have H3 := Lib.hid (H2.out.below hb)
  have B3 := Lib.hid (B2.out.step hb)
  have R3 := Lib.hid (R2.out.below hb)
  have Q3 := Lib.hid hr
  clear hr hb
  go_wp2_with fail
  refine (HS.out _ H3.out).mono ?_
  rintro e w4 ⟨b3, cap3, rfl, hr, hb⟩
  have H4 := Lib.hid (H3.out.below hb)
  have B4 := Lib.hid (B3.out.step hb)
  have R4 := Lib.hid (R3.out.below hb)
  have Q4 := Lib.hid (Q3.out.below hb)
  have S4 := Lib.hid hr
  clear hr hb HA HB HS R2 R3 Q3 H1 H2 H3 B1 B2 B3
  obtain ⟨x0, o0, rfl, e0⟩ := H4.out.cells (by omega)
  obtain ⟨x1, o1, rfl, e1⟩ := R4.out.cells (by omega)
  obtain ⟨x2, o2, rfl, e2⟩ := Q4.out.cells (by omega)
  obtain ⟨x3, o3, rfl, e3⟩ := S4.out.cells (by omega)
  have E1 := Lib.hid e1
  have E2 := Lib.hid e2
  have f0 := e0 0 (by omega)
  have f3 := e3 0 (by omega)
  have f4 := e3 (len0 - 1) (by omega)
  have hls := Sh.last_stride (d := d) (by have := hl.out; omega)
  rw [hl.out] at hls
  rw [hls] at f4
  have hfs := Sh.first_stride (d := d) (by have := hl.out; omega)
  rw [← HP.out] at hfs
  generalize d.getD 0 0 = y0 at *
  generalize (Sh.strides d).getD 0 0 = y3 at *
  rw [Nat.add_zero] at f0 f3
  clear e0 e1 e2 e3 hls
  have hb1 : ((len0 : Int) != (len0 : Int)) = false := by simp
  have hb2 : (y3 * y0 != (S : Int)) = false := by rw [hfs]; simp
  have i1 : (0 : Int) ≤ (len0 : Int) - 1 := by omega
  have i2 : ((len0 : Int) - 1).toNat = len0 - 1 := by omega
  go_wp2
  go_quiet (fail)
  have HP2 := Lib.hid hfs
  clear hfs hb2 i1 i2 f0 f3 f4 eT eU
  go_wp2
  go_loopw [11, 90] (fun f i wr => ∃ (k : Nat) (N : Int) (q : Nat), k ≤ len0 ∧ f = .int .i64 0 ∧ i = .int .i64 k ∧ Sh.idx N (d.drop k) (D.drop k) = T ∧ Sh.idx N (d.drop k) (E.drop k) = U ∧ wr = w4.drewN q) (fun _ i _ => len0 - (intOf i).toNat)
  case atStart => exact ⟨0, 0, nq, Nat.zero_le _, rfl, rfl, HI0.out, HJ0.out, rfl⟩
  case round =>
    obtain ⟨k, N, q, hk, rfl, rfl, hs1, hs2, rfl⟩ := hrel
    by_cases hlt : k < len0
    · have f1 := E1.out k hlt
      have f2 := E2.out k hlt
      have hD := R4.out.len_eq
      have hE := Q4.out.len_eq
      have hd := hl.out
      have hr1 := Sh.idx_range (d.drop (k + 1)) (D.drop (k + 1)) (N + D.getD k 0 * Sh.prod (d.drop (k + 1))) (by simp [hD, hd]) (fun x hx => HY.out.ge x (List.mem_of_mem_drop hx)) (fun j hj => by
        have := G1.out (k + 1 + j) (by simp at hj; omega)
        simpa [List.getD] using this)
      have hr2 := Sh.idx_range (d.drop (k + 1)) (E.drop (k + 1)) (N + E.getD k 0 * Sh.prod (d.drop (k + 1))) (by simp [hE, hd]) (fun x hx => HY.out.ge x (List.mem_of_mem_drop hx)) (fun j hj => by
        have := K1.out (k + 1 + j) (by simp at hj; omega)
        simpa [List.getD] using this)
      have g1 := G1.out k (by omega)
      have g2 := K1.out k (by omega)
      rw [Sh.drop_cons d k (by omega), Sh.drop_cons D k (by omega), Sh.idx_yes (by omega)] at hs1
      rw [Sh.drop_cons d k (by omega), Sh.drop_cons E k (by omega), Sh.idx_yes (by omega)] at hs2
      rw [hs1] at hr1
      rw [hs2] at hr2
      have hp := HY.out.drop_pos (k + 1)
      have hri : D.getD k 0 < E.getD k 0 → (T : Int) < U := fun h => Sh.rise_step hp hr1.1 hr1.2 hr2.1 hr2.2 h
      have hrj : E.getD k 0 < D.getD k 0 → (U : Int) < T := fun h => Sh.rise_step hp hr2.1 hr2.2 hr1.1 hr1.2 h
      generalize D.getD k 0 = a at *
      generalize E.getD k 0 = b at *
      clear hD hE hd g1 g2 hr1 hr2 hp
      have cs : a = b ∨ a < b ∨ b < a := by omega
      rcases cs with rfl | c | c
      · have c2 : (a != a) = false := by simp
        have HS1 := Lib.hid hs1
        have HS2 := Lib.hid hs2
        clear hs1 hs2 hri hrj
        go_wp2
        go_quiet (fail)
        go_wp2
        go_roundw
        case rel => exact ⟨k + 1, _, q + nq, by omega, rfl, by go_num, HS1.out, HS2.out, rfl⟩
        case measure => simp [intOf]; omega
      · have c2 : (a != b) = true := by rw [bne_iff_ne]; omega
        have hTU := hri c
        have hne : ((T : Int) == (U : Int)) = false := by rw [beq_eq_false_iff_ne]; omega
        clear hs1 hs2 hri hrj
        go_wp2
        go_quiet (fail)
        have BA := Lib.hid ((below_drewN w4 q).draws nq)
        generalize (w4.drewN q).drewN nq = wa at *
        replace f1 := BA.out.cell_of f1
        replace f2 := BA.out.cell_of f2
        go_wp2
        go_quiet (fail)
        have BW := Lib.hid (BA.out.draws nq)
        generalize wa.drewN nq = w5 at *
        have H5 := Lib.hid (H4.out.below BW.out)
        have R5 := Lib.hid (R4.out.below BW.out)
        have B5 := Lib.hid (B4.out.step BW.out)
        clear BW
        obtain ⟨i0, hi, hz0, hz1, hz2⟩ := info_parts infoInt
        by_cases c4 : len0 < 4
        · have hz1' := hz1
          go_wp2_with (first
            | (at_builtin; refine wpList_append_some _ rfl _ _ 40 rfl w5.heap.size 3 i0 (.int .i64 0) 1 8 Try.underlying40 hi hz0 hz1 hz2 rfl (by decide) _ 1 [.int .i64 1] rfl (lit_owned w5 _ _ _ _ (Nat.le_refl _)) ⟨x0, o0, none⟩ len0 cap0 (d.map (Value.int .i64)) rfl ?c1 ?c2 ?c3 ?c4 ?c5 ?c6 ?c7 ?_))
          case c1 => rw [List.length_map, H5.out.len_eq, Nat.mul_one]
          case c2 => exact (H5.out.below (below_alloc _ _)).news
          case c3 => exact oneCells _ _
          case c4 => unfold maxLen; omega
          case c5 => omega
          case c6 => rw [World.size_alloc]; omega
          case c7 => omega
          intro g6 cg6 w6 hown hgrow _ _
          have hb := below_lit hgrow
          have E6 := Lib.hid (RowAt.owned (zs := 1 :: d) hown (wf_cons (by decide) H5.out.wf) (by omega) : RowAt .i64 w6 (some ⟨g6, 0, none⟩) (1 + len0) (1 :: d))
          have H6 := Lib.hid (H5.out.below hb)
          have R6 := Lib.hid (R5.out.below hb)
          have B6 := Lib.hid (B5.out.step hb)
          clear hown hgrow hb
          go_wp2_with fail
          refine (may_any _ _ _ _ _ E6.out).mono ?_
          rw [HC1.out c4]
          rintro e w' ⟨rfl, rfl⟩
          go_wp2_with fail
          refine (size_any _ _ _ _ _ E6.out).mono ?_
          rw [HC2.out c4]
          rintro e w' ⟨rfl, rfl⟩
          go_wp2_with (first
            | (at_builtin; refine wpList_append_some _ rfl _ _ 40 rfl w6.heap.size 3 i0 (.int .i64 0) 1 8 Try.underlying40 hi hz0 hz1 hz2 rfl (by decide) _ 1 [.int .i64 0] rfl (lit_owned w6 _ _ _ _ (Nat.le_refl _)) ⟨x1, o1, none⟩ len0 cap1 (D.map (Value.int .i64)) rfl ?c1 ?c2 ?c3 ?c4 ?c5 ?c6 ?c7 ?_))
          case c1 => rw [List.length_map, R6.out.len_eq, Nat.mul_one]
          case c2 => exact (R6.out.below (below_alloc _ _)).news
          case c3 => exact oneCells _ _
          case c4 => unfold maxLen; omega
          case c5 => omega
          case c6 => rw [World.size_alloc]; omega
          case c7 => omega
          intro g7 cg7 w7 hown hgrow _ _
          have hb := below_lit hgrow
          have F7 := Lib.hid (RowAt.owned (zs := 0 :: D) hown (wf_cons (by decide) R6.out.wf) (by omega) : RowAt .i64 w7 (some ⟨g7, 0, none⟩) (1 + len0) (0 :: D))
          have E7 := Lib.hid (E6.out.below hb)
          have H7 := Lib.hid (H6.out.below hb)
          have B7 := Lib.hid (B6.out.step hb)
          clear hown hgrow hb
          go_wp2_with fail
          refine (index_any _ _ _ _ _ _ _ _ _ E7.out F7.out).mono ?_
          rw [HC3.out c4]
          rintro e w8 ⟨rfl, hb⟩
          have H8 := Lib.hid (H7.out.below hb)
          have B8 := Lib.hid (B7.out.step hb)
          clear hb
          go_wp2_with fail
          refine (shapeSame_any _ _ _ _ _ _ _ _ _ H8.out H8.out).mono ?_
          rw [decide_eq_true (rfl : d = d)]
          rintro e w9 ⟨rfl, n9, rfl⟩
          go_wp2_with (go_at_call 11; refine (awake7_any _).mono ?_; rintro e w10 ⟨rfl, hb⟩)
          go_ret
          exact ⟨rfl, (B8.out.draws n9).step hb⟩
        · go_wp2_with fail
          refine (shapeSame_any _ _ _ _ _ _ _ _ _ H5.out H5.out).mono ?_
          rw [decide_eq_true (rfl : d = d)]
          rintro e w9 ⟨rfl, n9, rfl⟩
          go_wp2_with (go_at_call 11; refine (awake7_any _).mono ?_; rintro e w10 ⟨rfl, hb⟩)
          go_ret
          exact ⟨rfl, (B5.out.draws n9).step hb⟩
      · have c2 : (a != b) = true := by rw [bne_iff_ne]; omega
        have hTU := hrj c
        have hne : ((T : Int) == (U : Int)) = false := by rw [beq_eq_false_iff_ne]; omega
        clear hs1 hs2 hri hrj
        go_wp2
        go_quiet (fail)
        have BA := Lib.hid ((below_drewN w4 q).draws nq)
        generalize (w4.drewN q).drewN nq = wa at *
        replace f1 := BA.out.cell_of f1
        replace f2 := BA.out.cell_of f2
        go_wp2
        go_quiet (fail)
        have BW := Lib.hid (BA.out.draws nq)
        generalize wa.drewN nq = w5 at *
        have H5 := Lib.hid (H4.out.below BW.out)
        have R5 := Lib.hid (R4.out.below BW.out)
        have B5 := Lib.hid (B4.out.step BW.out)
        clear BW
        obtain ⟨i0, hi, hz0, hz1, hz2⟩ := info_parts infoInt
        by_cases c4 : len0 < 4
        · have hz1' := hz1
          go_wp2_with (first
            | (at_builtin; refine wpList_append_some _ rfl _ _ 40 rfl w5.heap.size 3 i0 (.int .i64 0) 1 8 Try.underlying40 hi hz0 hz1 hz2 rfl (by decide) _ 1 [.int .i64 1] rfl (lit_owned w5 _ _ _ _ (Nat.le_refl _)) ⟨x0, o0, none⟩ len0 cap0 (d.map (Value.int .i64)) rfl ?c1 ?c2 ?c3 ?c4 ?c5 ?c6 ?c7 ?_))
          case c1 => rw [List.length_map, H5.out.len_eq, Nat.mul_one]
          case c2 => exact (H5.out.below (below_alloc _ _)).news
          case c3 => exact oneCells _ _
          case c4 => unfold maxLen; omega
          case c5 => omega
          case c6 => rw [World.size_alloc]; omega
          case c7 => omega
          intro g6 cg6 w6 hown hgrow _ _
          have hb := below_lit hgrow
          have E6 := Lib.hid (RowAt.owned (zs := 1 :: d) hown (wf_cons (by decide) H5.out.wf) (by omega) : RowAt .i64 w6 (some ⟨g6, 0, none⟩) (1 + len0) (1 :: d))
          have H6 := Lib.hid (H5.out.below hb)
          have R6 := Lib.hid (R5.out.below hb)
          have B6 := Lib.hid (B5.out.step hb)
          clear hown hgrow hb
          go_wp2_with fail
          refine (may_any _ _ _ _ _ E6.out).mono ?_
          rw [HC1.out c4]
          rintro e w' ⟨rfl, rfl⟩
          go_wp2_with fail
          refine (size_any _ _ _ _ _ E6.out).mono ?_
          rw [HC2.out c4]
          rintro e w' ⟨rfl, rfl⟩
          go_wp2_with (first
            | (at_builtin; refine wpList_append_some _ rfl _ _ 40 rfl w6.heap.size 3 i0 (.int .i64 0) 1 8 Try.underlying40 hi hz0 hz1 hz2 rfl (by decide) _ 1 [.int .i64 0] rfl (lit_owned w6 _ _ _ _ (Nat.le_refl _)) ⟨x1, o1, none⟩ len0 cap1 (D.map (Value.int .i64)) rfl ?c1 ?c2 ?c3 ?c4 ?c5 ?c6 ?c7 ?_))
          case c1 => rw [List.length_map, R6.out.len_eq, Nat.mul_one]
          case c2 => exact (R6.out.below (below_alloc _ _)).news
          case c3 => exact oneCells _ _
          case c4 => unfold maxLen; omega
          case c5 => omega
          case c6 => rw [World.size_alloc]; omega
          case c7 => omega
          intro g7 cg7 w7 hown hgrow _ _
          have hb := below_lit hgrow
          have F7 := Lib.hid (RowAt.owned (zs := 0 :: D) hown (wf_cons (by decide) R6.out.wf) (by omega) : RowAt .i64 w7 (some ⟨g7, 0, none⟩) (1 + len0) (0 :: D))
          have E7 := Lib.hid (E6.out.below hb)
          have H7 := Lib.hid (H6.out.below hb)
          have B7 := Lib.hid (B6.out.step hb)
          clear hown hgrow hb
          go_wp2_with fail
          refine (index_any _ _ _ _ _ _ _ _ _ E7.out F7.out).mono ?_
          rw [HC3.out c4]
          rintro e w8 ⟨rfl, hb⟩
          have H8 := Lib.hid (H7.out.below hb)
          have B8 := Lib.hid (B7.out.step hb)
          clear hb
          go_wp2_with fail
          refine (shapeSame_any _ _ _ _ _ _ _ _ _ H8.out H8.out).mono ?_
          rw [decide_eq_true (rfl : d = d)]
          rintro e w9 ⟨rfl, n9, rfl⟩
          go_wp2_with (go_at_call 11; refine (awake7_any _).mono ?_; rintro e w10 ⟨rfl, hb⟩)
          go_ret
          exact ⟨rfl, (B8.out.draws n9).step hb⟩
        · go_wp2_with fail
          refine (shapeSame_any _ _ _ _ _ _ _ _ _ H5.out H5.out).mono ?_
          rw [decide_eq_true (rfl : d = d)]
          rintro e w9 ⟨rfl, n9, rfl⟩
          go_wp2_with (go_at_call 11; refine (awake7_any _).mono ?_; rintro e w10 ⟨rfl, hb⟩)
          go_ret
          exact ⟨rfl, (B5.out.draws n9).step hb⟩
    · have hke : k = len0 := by omega
      have hTU : T = U := by
        rw [hke, List.drop_of_length_le (by have := hl.out; omega), List.drop_of_length_le (by rw [R4.out.len_eq]; omega)] at hs1
        rw [hke, List.drop_of_length_le (by have := hl.out; omega), List.drop_of_length_le (by rw [Q4.out.len_eq]; omega)] at hs2
        rw [hs1] at hs2; exact Int.ofNat_inj.1 hs2
      subst hTU
      clear hs1 hs2 hke
      have BW := Lib.hid (below_drewN w4 q)
      generalize w4.drewN q = w5 at *
      have H5 := Lib.hid (H4.out.below BW.out)
      have R5 := Lib.hid (R4.out.below BW.out)
      have B5 := Lib.hid (B4.out.step BW.out)
      clear BW
      obtain ⟨i0, hi, hz0, hz1, hz2⟩ := info_parts infoInt
      by_cases c4 : len0 < 4
      · have hz1' := hz1
        go_wp2_with (first
          | (at_builtin; refine wpList_append_some _ rfl _ _ 40 rfl w5.heap.size 3 i0 (.int .i64 0) 1 8 Try.underlying40 hi hz0 hz1 hz2 rfl (by decide) _ 1 [.int .i64 1] rfl (lit_owned w5 _ _ _ _ (Nat.le_refl _)) ⟨x0, o0, none⟩ len0 cap0 (d.map (Value.int .i64)) rfl ?c1 ?c2 ?c3 ?c4 ?c5 ?c6 ?c7 ?_))
        case c1 => rw [List.length_map, H5.out.len_eq, Nat.mul_one]
        case c2 => exact (H5.out.below (below_alloc _ _)).news
        case c3 => exact oneCells _ _
        case c4 => unfold maxLen; omega
        case c5 => omega
        case c6 => rw [World.size_alloc]; omega
        case c7 => omega
        intro g6 cg6 w6 hown hgrow _ _
        have hb := below_lit hgrow
        have E6 := Lib.hid (RowAt.owned (zs := 1 :: d) hown (wf_cons (by decide) H5.out.wf) (by omega) : RowAt .i64 w6 (some ⟨g6, 0, none⟩) (1 + len0) (1 :: d))
        have H6 := Lib.hid (H5.out.below hb)
        have R6 := Lib.hid (R5.out.below hb)
        have B6 := Lib.hid (B5.out.step hb)
        clear hown hgrow hb
        go_wp2_with fail
        refine (may_any _ _ _ _ _ E6.out).mono ?_
        rw [HC1.out c4]
        rintro e w' ⟨rfl, rfl⟩
        go_wp2_with fail
        refine (size_any _ _ _ _ _ E6.out).mono ?_
        rw [HC2.out c4]
        rintro e w' ⟨rfl, rfl⟩
        go_wp2_with (first
          | (at_builtin; refine wpList_append_some _ rfl _ _ 40 rfl w6.heap.size 3 i0 (.int .i64 0) 1 8 Try.underlying40 hi hz0 hz1 hz2 rfl (by decide) _ 1 [.int .i64 0] rfl (lit_owned w6 _ _ _ _ (Nat.le_refl _)) ⟨x1, o1, none⟩ len0 cap1 (D.map (Value.int .i64)) rfl ?c1 ?c2 ?c3 ?c4 ?c5 ?c6 ?c7 ?_))
        case c1 => rw [List.length_map, R6.out.len_eq, Nat.mul_one]
        case c2 => exact (R6.out.below (below_alloc _ _)).news
        case c3 => exact oneCells _ _
        case c4 => unfold maxLen; omega
        case c5 => omega
        case c6 => rw [World.size_alloc]; omega
        case c7 => omega
        intro g7 cg7 w7 hown hgrow _ _
        have hb := below_lit hgrow
        have F7 := Lib.hid (RowAt.owned (zs := 0 :: D) hown (wf_cons (by decide) R6.out.wf) (by omega) : RowAt .i64 w7 (some ⟨g7, 0, none⟩) (1 + len0) (0 :: D))
        have E7 := Lib.hid (E6.out.below hb)
        have H7 := Lib.hid (H6.out.below hb)
        have B7 := Lib.hid (B6.out.step hb)
        clear hown hgrow hb
        go_wp2_with fail
        refine (index_any _ _ _ _ _ _ _ _ _ E7.out F7.out).mono ?_
        rw [HC3.out c4]
        rintro e w8 ⟨rfl, hb⟩
        have H8 := Lib.hid (H7.out.below hb)
        have B8 := Lib.hid (B7.out.step hb)
        clear hb
        go_wp2_with fail
        refine (shapeSame_any _ _ _ _ _ _ _ _ _ H8.out H8.out).mono ?_
        rw [decide_eq_true (rfl : d = d)]
        rintro e w9 ⟨rfl, n9, rfl⟩
        go_wp2_with (go_at_call 11; refine (awake7_any _).mono ?_; rintro e w10 ⟨rfl, hb⟩)
        go_ret
        exact ⟨rfl, (B8.out.draws n9).step hb⟩
      · go_wp2_with fail
        refine (shapeSame_any _ _ _ _ _ _ _ _ _ H5.out H5.out).mono ?_
        rw [decide_eq_true (rfl : d = d)]
        rintro e w9 ⟨rfl, n9, rfl⟩
        go_wp2_with (go_at_call 11; refine (awake7_any _).mono ?_; rintro e w10 ⟨rfl, hb⟩)
        go_ret
        exact ⟨rfl, (B5.out.draws n9).step hb⟩
theorem shapeRows_any (a0 : Option Addr) (len0 cap0 : Nat) (z0 : List Int) (a1 a2 : Int) (w : World) (w0 : IsRow .i64 8 w a0 len0 cap0 z0) (w1 : (Lit.int .i64 a1).wf = true) (w2 : (Lit.int .i64 a2).wf = true) :
    Calls Try.prog 9 #[.slice a0 len0 cap0, .int .i64 a1, .int .i64 a2] w fun e w' => e = .returned (.bool true) ∧ Below w.heap.size w w' := by
  have r := w0.at (by omega)
  by_cases h : 0 < Sh.size (z0.take len0)
  · exact shapeRows_yes a0 len0 cap0 _ a1 a2 w r h
  · exact shapeRows_no a0 len0 cap0 _ a1 a2 w r h
end Go.Proofs.Ytmebchgjofpepaa
