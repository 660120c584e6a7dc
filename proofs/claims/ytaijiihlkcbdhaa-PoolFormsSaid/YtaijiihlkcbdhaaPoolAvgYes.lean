/-
  The walk of Avg where there are windows.
-/
import Derived.Test.YtaijiihlkcbdhaaPoolAvg
import Derived.Test.YtaijiihlkcbdhaaPoolMaxYes
import Derived.Deep.DeepCutAuto
namespace Go.Proofs.Ytaijiihlkcbdhaa
open Go.RowKit
set_option linter.unusedVariables false
set_option linter.unusedSimpArgs false
attribute [local go_sem ↓] Go.wp_at_zero Go.wp_at_succ
/-- What Avg gives: sums, and no error. -/
def GivesAcc (ds : List Int) (e : Int) (zs : List Int) (w : World) : Ending → World → Prop := fun r w' => ∃ a l c b m k, r = .returned (.tuple #[tensor a l c e b m k, .int .i64 0]) ∧ RowAt .i64 w' a l ds ∧ RowAt .i32 w' b m zs ∧ Below w.heap.size w w'
theorem T.sums_wf {z : List Int} (h : ∀ x ∈ z, (Lit.int .i8 x).wf = true) {R C k s : Int} {P Q n : Nat} : ∀ x ∈ T.sums z R C k s P Q n, (Lit.int .i32 x).wf = true := by
  intro x hx
  obtain ⟨j, _, rfl⟩ := List.mem_map.1 hx
  have := T.sum_le (getD8 h) (T.wix R C k s P Q j)
  have hl : (T.wix R C k s P Q j).length ≤ 25 := by
    unfold T.wix ix
    rw [List.length_map]
    exact winW_small _ _ _ _ _ _ _
  exact wf32 (by omega)
/-- The tensor that is to be filled, and its lengths. -/
def AccOut (e d0 d1 : Int) (P Q : Nat) (w4 : World) (v : Value) (wx : World) : Prop := ∃ bo bd, v = .pointer (some ⟨bo, 0, none⟩) ∧ wx.heap[bo]? = some (.cells #[.slice (some ⟨bd, 0, none⟩) 4 4, .int .i64 e, .slice none 0 0] 33 (0, 0)) ∧
  RowAt .i64 wx (some ⟨bd, 0, none⟩) 4 [d0, d1, P, Q] ∧ Below w4.heap.size w4 wx ∧ w4.heap.size ≤ bo ∧ w4.heap.size ≤ bd ∧ bd ≠ bo
theorem AccOut.one (e d0 d1 : Int) (P Q : Nat) (w4 : World) (h0 : (Lit.int .i64 d0).wf = true) (h1 : (Lit.int .i64 d1).wf = true) (hP : P ≤ 100) (hQ : Q ≤ 100) :
    AccOut e d0 d1 P Q w4 (.pointer (some ⟨w4.heap.size, 0, none⟩)) ((w4.alloc (.cells #[.slice (some ⟨w4.heap.size + 1, 0, none⟩) 4 4, .int .i64 e, .slice none 0 0] 33)).alloc (.cells #[.int .i64 d0, .int .i64 d1, .int .i64 P, .int .i64 Q] 3)).drew := by
  have hw : ∀ z ∈ [d0, d1, (P : Int), (Q : Int)], (Lit.int .i64 z).wf = true := by
    intro z hz
    simp at hz
    rcases hz with rfl | rfl | rfl | rfl
    · exact h0
    · exact h1
    · exact WalkArith.wf_i64 (by omega)
    · exact WalkArith.wf_i64 (by omega)
  have hr := RowAt.new (w4.alloc (.cells #[.slice (some ⟨w4.heap.size + 1, 0, none⟩) 4 4, .int .i64 e, .slice none 0 0] 33)) .i64 3 (0, 0) [d0, d1, (P : Int), (Q : Int)] hw (by simp)
  rw [World.size_alloc] at hr
  exact ⟨_, _, rfl, blk_alloc (heap_alloc_new w4 _) _, RowAt.draws hr 1, ((below_alloc w4 _).step (below_alloc _ _)).draws 1, Nat.le_refl _, by omega, by omega⟩
theorem AccOut.two (e d0 d1 : Int) (P Q : Nat) (w4 : World) (h0 : (Lit.int .i64 d0).wf = true) (h1 : (Lit.int .i64 d1).wf = true) (hP : P ≤ 100) (hQ : Q ≤ 100) :
    AccOut e d0 d1 P Q w4 (.pointer (some ⟨w4.heap.size + 1, 0, none⟩)) ((w4.alloc (.cells #[.int .i64 d0, .int .i64 d1, .int .i64 P, .int .i64 Q] 3)).alloc (.cells #[.slice (some ⟨w4.heap.size, 0, none⟩) 4 4, .int .i64 e, .slice none 0 0] 33)).drew := by
  have hw : ∀ z ∈ [d0, d1, (P : Int), (Q : Int)], (Lit.int .i64 z).wf = true := by
    intro z hz
    simp at hz
    rcases hz with rfl | rfl | rfl | rfl
    · exact h0
    · exact h1
    · exact WalkArith.wf_i64 (by omega)
    · exact WalkArith.wf_i64 (by omega)
  have hr := RowAt.new w4 .i64 3 (0, 0) [d0, d1, (P : Int), (Q : Int)] hw (by simp)
  have hn := heap_alloc_new (w4.alloc (.cells #[.int .i64 d0, .int .i64 d1, .int .i64 P, .int .i64 Q] 3)) (.cells #[.slice (some ⟨w4.heap.size, 0, none⟩) 4 4, .int .i64 e, .slice none 0 0] 33)
  rw [World.size_alloc] at hn
  exact ⟨_, _, rfl, hn, RowAt.draws (hr.below (below_alloc _ _)) 1, ((below_alloc w4 _).step (below_alloc _ _)).draws 1, by omega, Nat.le_refl _, by omega⟩
set_option maxRecDepth 100000 in
set_option maxHeartbeats 8000000 in
theorem avg_yes (a : Option Addr) (c : Nat) (d : List Int) (e : Int) (b : Option Addr) (m k0 : Nat) (z : List Int) (k s : Int) (P Q N : Nat) (w : World) (h0 : RowAt .i64 w a 4 d) (h1 : RowAt .i8 w b m z) (ht : T.may d e z) (hP : outW (d.getD 2 0) k s 0 = P) (hQ : outW (d.getD 3 0) k s 0 = Q) (hP0 : 0 < P) (hQ0 : 0 < Q) (hN : d.getD 0 0 * d.getD 1 0 = N) (hN2 : N ≤ 8192) (hz : (m : Int) = N * d.getD 2 0 * d.getD 3 0) (hm8 : m ≤ 8192) :
    Calls Try.prog 11 #[tensor a 4 c e b m k0, .int .i64 k, .int .i64 s] w (GivesAcc [d.getD 0 0, d.getD 1 0, P, Q] (e - k / 2 * 2) (T.sums z (d.getD 2 0) (d.getD 3 0) k s P Q (N * (P * Q))) w) := by
  have M := Lib.hid (fun w h0 h1 => (decide_eq_true ht ▸ tmay_any a 4 c d e b m k0 z w h0 h1 : Calls _ _ _ _ (GivesV (.bool true) w)))
  have OV := Lib.hid (fun w h => over_yes a c d k s w h)
  rw [hP, hQ, decide_eq_true (show (0 : Int) < P by omega), decide_eq_true (show (0 : Int) < Q by omega)] at OV
  have hwf0 := h0.wf
  obtain ⟨b0, o0, rfl, e0⟩ := h0.cells (by omega)
  have hdw : ∀ i, i < 4 → (Lit.int .i64 (d.getD i 0)).wf = true := fun i hi => by
    have : i < d.length := by rw [h0.len_eq]; exact hi
    exact hwf0 _ (by simp [List.getD, List.getElem?_eq_getElem this])
  have wf0 := hdw 0 (by omega)
  have wf1 := hdw 1 (by omega)
  have dc0 := e0 0 (by omega)
  have dc1 := e0 1 (by omega)
  rw [Nat.add_zero] at dc0
  have H0 := Lib.hid h0
  have H1 := Lib.hid h1
  generalize d.getD 0 0 = d0 at *
  generalize d.getD 1 0 = d1 at *
  generalize d.getD 2 0 = R at *
  generalize d.getD 3 0 = C at *
  have HN := Lib.hid hN
  have HP := Lib.hid hP
  have HQ := Lib.hid hQ
  have HZ := Lib.hid hz
  have DC0 := Lib.hid dc0
  have DC1 := Lib.hid dc1
  obtain ⟨_, _, ⟨he1, he2⟩, _⟩ := ht
  have hk1 : 1 ≤ k ∧ k ≤ 5 := by have := outW_fit (show 1 ≤ outW R k s 0 by rw [hP]; omega); omega
  obtain ⟨kk, hkk⟩ : ∃ kk, k / 2 * 2 = kk := ⟨_, rfl⟩
  have hkb : 0 ≤ kk ∧ kk ≤ 5 := by omega
  have LS := Lib.hid (fun w => (hkk ▸ less_any k w hk1.1 hk1.2 : Calls _ _ _ _ _))
  rw [hkk]
  obtain ⟨E, hE⟩ : ∃ E, e - kk = E := ⟨_, rfl⟩
  rw [hE]
  have hEw : IntKind.i64.wrap (e - kk) = E := by rw [← hE]; exact IntWalk.i64_in _ (by omega)
  have HE := Lib.hid hE
  have HEw := Lib.hid hEw
  clear h0 h1 hP hQ hN hz hdw hwf0 e0 dc0 dc1 hkk hE hEw
  unfold tensor
  unfold tensor at M
  unfold windows at OV
  go_enter Try.func11, Try.ntmps11
  go_wp2_with fail
  refine (M.out _ ((H0.out.below (below_alloc _ _)).below (below_alloc _ _)) ((H1.out.below (below_alloc _ _)).below (below_alloc _ _))).mono ?_
  rintro e' w2 ⟨rfl, hb⟩
  have HX := Lib.hid (blk_below (blk_alloc (heap_alloc_new w _) _) hb)
  obtain ⟨x0, x1, x2, _, _, _⟩ := newTensor HX.out
  have HR := Lib.hid (blk_below (heap_alloc_new (w.alloc _) _) hb)
  rw [World.size_alloc] at HR
  have BB := Lib.hid (((below_alloc w _).step (below_alloc _ _)).step hb)
  have H2 := Lib.hid (((H0.out.below (below_alloc _ _)).below (below_alloc _ _)).below hb)
  clear hb M
  go_wp2_with fail
  refine (OV.out _ H2.out).mono ?_
  rintro e' w3 ⟨rfl, hb⟩
  have HX3 := Lib.hid (blk_below HX.out hb)
  have HR3 := Lib.hid (blk_below HR.out hb)
  have B3 := Lib.hid (BB.out.step hb)
  clear hb x0 x1 x2 HX HR BB H2 OV
  go_upto_region 6 with fail
  have HB4 := Lib.hid (heap_alloc_new w3 (Obj.cells #[.int .i64 R, .int .i64 C, .int .i64 k, .int .i64 s, .int .i64 P, .int .i64 Q] 54))
  have HX4 := Lib.hid (blk_alloc HX3.out (Obj.cells #[.int .i64 R, .int .i64 C, .int .i64 k, .int .i64 s, .int .i64 P, .int .i64 Q] 54))
  have HR4 := Lib.hid (blk_alloc HR3.out (Obj.cells #[.int .i64 R, .int .i64 C, .int .i64 k, .int .i64 s, .int .i64 P, .int .i64 Q] 54))
  have B4 := Lib.hid (B3.out.step (below_alloc w3 (Obj.cells #[.int .i64 R, .int .i64 C, .int .i64 k, .int .i64 s, .int .i64 P, .int .i64 Q] 54)))
  have hw3 : w.heap.size + 1 < w3.heap.size := lt_of_block HR3.out
  clear HX3 HR3 B3
  generalize w3.alloc (Obj.cells #[.int .i64 R, .int .i64 C, .int .i64 k, .int .i64 s, .int .i64 P, .int .i64 Q] 54) = w4 at *
  generalize w3.heap.size = bw at *
  have hb0 : b0 < w.heap.size := World.block_lt_of_cell? w _ DC0.out
  obtain ⟨x0, x1, x2, _, _, _⟩ := newTensor HX4.out
  obtain ⟨_, _, _, _, p4, p5⟩ := blk6 HB4.out
  have dc0 := B4.out.cell_of DC0.out
  have dc1 := B4.out.cell_of DC1.out
  have hPs : P ≤ 100 := by have := outW_max R k s 0; rw [HP.out] at this; omega
  have hQs : Q ≤ 100 := by have := outW_max C k s 0; rw [HQ.out] at this; omega
  have hPs20 : P ≤ 20 := by have := outW_max R k s 0; rw [HP.out] at this; omega
  have hQs20 : Q ≤ 20 := by have := outW_max C k s 0; rw [HQ.out] at this; omega
  go_cut [10] (fun s10 wx => AccOut E d0 d1 P Q w4 s10 wx)
  case first => as_aux_lemma =>
    have hE1 := HE.out
    have hE2 : IntKind.i64.wrap E = E := by
      have := HEw.out
      rw [HE.out] at this
      exact this
    go_region_held3 (fun w' => w'.cell? ⟨w.heap.size, 0, none⟩ = some (.slice (some ⟨b0, o0, none⟩) 4 c) ∧ w'.cell? ⟨w.heap.size, 1, none⟩ = some (.int .i64 e) ∧ w'.cell? ⟨bw, 4, none⟩ = some (.int .i64 P) ∧ w'.cell? ⟨bw, 5, none⟩ = some (.int .i64 Q) ∧ w'.cell? ⟨b0, o0, none⟩ = some (.int .i64 d0) ∧ w'.cell? ⟨b0, o0 + 1, none⟩ = some (.int .i64 d1)) (go_keep) (first | (go_at_call 28; ((refine (LS.out _).mono ?_); rintro e7 w7 ⟨rfl, rfl⟩)))
    all_goals
      go_wp2_with fail
      go_meet
      case rel => (try rw [hE2]); first | exact AccOut.one E d0 d1 P Q w4 wf0 wf1 hPs hQs | exact AccOut.two E d0 d1 P Q w4 wf0 wf1 hPs hQs
  case rest =>
    obtain ⟨bo, bd, rfl, ho, hd4, hb5, hl1, hl2, hl3⟩ := hcut
    have HO5 := Lib.hid ho
    have HD5 := Lib.hid hd4
    have HX5 := Lib.hid (blk_below HX4.out hb5)
    have HR5 := Lib.hid (blk_below HR4.out hb5)
    have HB5 := Lib.hid (blk_below HB4.out hb5)
    have B5 := Lib.hid (B4.out.step hb5)
    have hs1 : w4.heap.size ≤ wc.heap.size := hb5.size
    have hs2 : bw < w4.heap.size := lt_of_block HB4.out
    have hs3 : bo < wc.heap.size := lt_of_block HO5.out
    have hs4 : bd < wc.heap.size := HD5.out.lt (by omega)
    clear ho hd4 hb5 HX4 HR4 HB4 B4 x0 x1 x2 p4 p5 dc0 dc1
    go_wp2_with fail
    obtain ⟨w5, rfl⟩ : ∃ w5 : World, w5 = wc := ⟨_, rfl⟩
    have ME := Lib.hid (avgEach w w5.drew b m k0 z R C k s P Q N w.heap.size bo _ _ _ _ HP.out HQ.out hP0 hQ0 hN2 HZ.out hm8 H1.out (B5.out.draws 1) HX5.out HO5.out (by omega) (by omega))
    unfold windows at ME
    have hN := HN.out
    have hNw : IntKind.i64.wrap (N : Int) = N := wrap_small N (by omega)
    obtain ⟨x0, _, _, _, _, _⟩ := newTensor HX5.out
    obtain ⟨p0, p1, p2, p3, p4, p5⟩ := blk6 HB5.out
    have dc0 := B5.out.cell_of DC0.out
    have dc1 := B5.out.cell_of DC1.out
    have nbw := Lib.hid (show ¬ (bw = bo) by omega)
    have nbx := Lib.hid (show ¬ (w.heap.size = bo) by omega)
    have nb0 := Lib.hid (show ¬ (b0 = bo) by omega)
    have lbw := Lib.hid (show bw < w5.heap.size by omega)
    have lbx := Lib.hid (show w.heap.size < w5.heap.size by omega)
    have lb0 := Lib.hid (show b0 < w5.heap.size by omega)
    go_region_held3 (fun w' => (w'.cell? ⟨bw, 0, none⟩ = some (.int .i64 R) ∧ w'.cell? ⟨bw, 1, none⟩ = some (.int .i64 C) ∧ w'.cell? ⟨bw, 2, none⟩ = some (.int .i64 k) ∧ w'.cell? ⟨bw, 3, none⟩ = some (.int .i64 s) ∧ w'.cell? ⟨bw, 4, none⟩ = some (.int .i64 P) ∧ w'.cell? ⟨bw, 5, none⟩ = some (.int .i64 Q)) ∧ w'.cell? ⟨w.heap.size, 0, none⟩ = some (.slice (some ⟨b0, o0, none⟩) 4 c) ∧ w'.cell? ⟨b0, o0, none⟩ = some (.int .i64 d0) ∧ w'.cell? ⟨b0, o0 + 1, none⟩ = some (.int .i64 d1))
      (first
        | go_keep
        | exact ⟨⟨hkp.out.cell lbw.out nbw.out p0, hkp.out.cell lbw.out nbw.out p1, hkp.out.cell lbw.out nbw.out p2, hkp.out.cell lbw.out nbw.out p3, hkp.out.cell lbw.out nbw.out p4, hkp.out.cell lbw.out nbw.out p5⟩, hkp.out.cell lbx.out nbx.out x0, hkp.out.cell lb0.out nb0.out dc0, hkp.out.cell lb0.out nb0.out dc1⟩)
      (first | (go_at_call 26; (refine ME.out.mono ?_); rintro e6 w6 ⟨rfl, hma, hka⟩; have hkp := Lib.hid hka; have hmx := Lib.hid hma; clear hma hka))
    obtain ⟨vd, ho6, htw, _⟩ := hmx.out
    have hr6 := (hkp.out.block (w.heap.size + 1) (by show w.heap.size + 1 < w5.heap.size; omega) (by show ¬ (w.heap.size + 1 = bo); omega)).trans HR5.out
    have hNPQ : N * (P * Q) ≤ 3300000 := by
      have := Nat.mul_le_mul hN2 (Nat.mul_le_mul hPs20 hQs20)
      omega
    obtain ⟨av, cv, rfl, hrv⟩ := RowAt.ownedAny htw (T.sums_wf H1.out.wf) (by omega)
    have HRV := Lib.hid hrv
    have HRD := Lib.hid (hkp.out.rowAt (by show bd < w5.heap.size; omega) (by show ¬ (bd = bo); omega) (HD5.out.draws 1))
    have B6 := Lib.hid (hkp.out.toBelow (B5.out.draws 1) (by show w.heap.size ≤ w5.heap.size; omega) (by rintro g rfl; omega))
    have lv := Lib.hid (fun x (h : av = some x) => (htw.lt x.block (by rw [h]; rfl)).1)
    obtain ⟨q0, q1, q2, _, _, _⟩ := newTensor ho6
    have HR6 := Lib.hid hr6
    obtain ⟨u0, u1, u2, u3, u4, u5⟩ := newTensor hr6
    clear hr6 ho6 htw hrv x0 p0 p1 p2 p3 p4 p5 dc0 dc1 hmx HB5 HX5 HO5 ME
    go_wp2
    refine bodyPost_ret (v := .tuple #[.agg #[.slice (some ⟨bd, 0, none⟩) 4 4, .int .i64 E, .slice av (N * (P * Q)) cv], .int .i64 0]) ?_ rfl ⟨_, _, _, _, _, _, rfl, ?_, ?_, ?_⟩
    · obtain ⟨r0, r1, r2, _, _, _⟩ := newTensor (store3 (a := .slice (some ⟨bd, 0, none⟩) 4 4) (b := .int .i64 E) (c := .slice av (N * (P * Q)) cv) HR6.out)
      simp [results, Try.results11, go_sem, r0, r1, r2]
    · exact HRD.out.set3 (fun x hx => by cases hx; show bd ≠ w.heap.size + 1; omega)
    · exact HRV.out.set3 (fun x hx => by have := lv.out x hx; have : w5.drew.heap.size = w5.heap.size := rfl; omega)
    · exact ((B6.out.setCell (by show w.heap.size ≤ w.heap.size + 1; omega) _).setCell (by show w.heap.size ≤ w.heap.size + 1; omega) _).setCell (by show w.heap.size ≤ w.heap.size + 1; omega) _
end Go.Proofs.Ytaijiihlkcbdhaa
