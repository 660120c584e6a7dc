/-
  The walk of AvgBack where there are windows.
-/
import Derived.Test.YtaijiihlkcbdhaaAvgBackBad
namespace Go.Proofs.Ytaijiihlkcbdhaa
open Go.RowKit
set_option linter.unusedVariables false
attribute [local go_sem ↓] Go.wp_at_zero Go.wp_at_succ
theorem cell_draws {w : World} {p : Addr} {v : Value} (h : w.cell? p = some v) (n : Nat) : (w.drewN n).cell? p = some v := (below_drewN w n).cell_of h
set_option maxRecDepth 100000 in
set_option maxHeartbeats 16000000 in
theorem avgBack_yes (a : Option Addr) (l c : Nat) (d : List Int) (e : Int) (b : Option Addr) (m k0 : Nat) (z : List Int) (da : Option Addr) (dc : Nat) (ds : List Int) (k s : Int) (P Q N n : Nat) (w : World) (h0 : RowAt .i64 w a l d) (h1 : RowAt .i8 w b m z) (h3 : RowAt .i64 w da 4 ds)
    (ht : T.may d e z) (hs : Sh.size ds = n) (hn0 : 0 < n) (hn1 : n ≤ 8192) (hP : outW (ds.getD 2 0) k s 0 = P) (hQ : outW (ds.getD 3 0) k s 0 = Q) (hP0 : 0 < P) (hQ0 : 0 < Q) (hN : ds.getD 0 0 * ds.getD 1 0 = N) (hN2 : N ≤ 8192) (hnn : (n : Int) = N * ds.getD 2 0 * ds.getD 3 0)
    (hm : d = [ds.getD 0 0, ds.getD 1 0, P, Q] → m = N * (P * Q)) (hm8 : m ≤ 8192) (hN0 : 0 < N) :
    Calls Try.prog 18 #[tensor a l c e b m k0, .slice da 4 dc, .int .i64 k, .int .i64 s] w
      (if d = [ds.getD 0 0, ds.getD 1 0, (P : Int), (Q : Int)] then GivesA ds (e - k / 2 * 2) (T.puts n (T.backs z (ds.getD 2 0) (ds.getD 3 0) k s P Q (N * (P * Q)))) 0 w else GivesA [] 0 [] 2 w) := by
  obtain ⟨PP, hPP⟩ : ∃ PP, (if d = [ds.getD 0 0, ds.getD 1 0, (P : Int), (Q : Int)] then GivesA ds (e - k / 2 * 2) (T.puts n (T.backs z (ds.getD 2 0) (ds.getD 3 0) k s P Q (N * (P * Q)))) 0 w else GivesA [] 0 [] 2 w) = PP := ⟨_, rfl⟩
  rw [hPP]
  have M := Lib.hid (fun w h0 h1 => (decide_eq_true ht ▸ tmay_any a l c d e b m k0 z w h0 h1 : Calls _ _ _ _ (GivesV (.bool true) w)))
  have MD := Lib.hid (fun w h => may_any da 4 dc ds w h)
  rw [decide_eq_true (show 0 < Sh.size ds by omega)] at MD
  have SZ := Lib.hid (fun w h => (hs ▸ size_any da 4 dc ds w h))
  have OV := Lib.hid (fun w h => over_yes da dc ds k s w h)
  have CL := Lib.hid (fun w h => clone_any da 4 dc ds w h (by omega) (by omega))
  rw [hP, hQ, decide_eq_true (show (0 : Int) < P by omega), decide_eq_true (show (0 : Int) < Q by omega)] at OV
  have hwf0 := h3.wf
  obtain ⟨b0, o0, rfl, e0⟩ := h3.cells (by omega)
  have hdw : ∀ i, i < 4 → (Lit.int .i64 (ds.getD i 0)).wf = true := fun i hi => by
    have : i < ds.length := by rw [h3.len_eq]; exact hi
    exact hwf0 _ (by simp [List.getD, List.getElem?_eq_getElem this])
  have wf0 := hdw 0 (by omega)
  have wf1 := hdw 1 (by omega)
  have dc0 := e0 0 (by omega)
  have dc1 := e0 1 (by omega)
  rw [Nat.add_zero] at dc0
  have H0 := Lib.hid h0
  have H1 := Lib.hid h1
  have H3 := Lib.hid h3
  generalize ds.getD 0 0 = d0 at *
  generalize ds.getD 1 0 = d1 at *
  generalize ds.getD 2 0 = R at *
  generalize ds.getD 3 0 = C at *
  have HPP := Lib.hid hPP
  have HMM := Lib.hid hm
  have HN := Lib.hid hN
  have HNN := Lib.hid hnn
  have HP := Lib.hid hP
  have HQ := Lib.hid hQ
  have DC0 := Lib.hid dc0
  have DC1 := Lib.hid dc1
  obtain ⟨_, _, ⟨he1, he2⟩, _⟩ := ht
  have hk1 : 1 ≤ k ∧ k ≤ 5 := by have := outW_fit (show 1 ≤ outW R k s 0 by rw [hP]; omega); omega
  obtain ⟨kk, hkk⟩ : ∃ kk, k / 2 * 2 = kk := ⟨_, rfl⟩
  have hkb : 0 ≤ kk ∧ kk ≤ 5 := by omega
  have LS := Lib.hid (fun w => (hkk ▸ less_any k w hk1.1 hk1.2 : Calls _ _ _ _ _))
  rw [hkk] at HPP
  obtain ⟨E, hE⟩ : ∃ E, e - kk = E := ⟨_, rfl⟩
  rw [hE] at HPP
  have hEw : IntKind.i64.wrap (e - kk) = E := by rw [← hE]; exact IntWalk.i64_in _ (by omega)
  have HE := Lib.hid hE
  have HEw := Lib.hid hEw
  obtain ⟨BB, hBB⟩ : ∃ BB, decide (d = [d0, d1, (P : Int), (Q : Int)]) = BB := ⟨_, rfl⟩
  have SM := Lib.hid (fun a1 len1 cap1 w h0 h1 => (hBB ▸ shapeSame_any a l c d a1 len1 cap1 [d0, d1, (P : Int), (Q : Int)] w h0 h1 : Calls _ _ _ _ (Gives (.bool BB) w)))
  have HBB := Lib.hid hBB
  clear h0 h1 h3 hP hQ hN hdw hwf0 e0 dc0 dc1 hkk hE hEw hPP hm hnn hs hBB
  unfold tensor
  unfold tensor at M
  unfold windows at OV
  go_enter Try.func18, Try.ntmps18
  go_wp2_with fail
  refine (M.out _ ((H0.out.below (below_alloc _ _)).below (below_alloc _ _)) ((H1.out.below (below_alloc _ _)).below (below_alloc _ _))).mono ?_
  rintro e' w2 ⟨rfl, hb⟩
  have HX := Lib.hid (blk_below (blk_alloc (heap_alloc_new w _) _) hb)
  have HR := Lib.hid (blk_below (heap_alloc_new (w.alloc _) _) hb)
  rw [World.size_alloc] at HR
  have B2 := Lib.hid (((below_alloc w _).step (below_alloc _ _)).step hb)
  clear hb M
  go_wp2_with fail
  refine (MD.out _ (H3.out.below B2.out)).mono ?_
  rintro e' w2' ⟨rfl, rfl⟩
  go_wp2_with fail
  refine (OV.out _ (H3.out.below B2.out)).mono ?_
  rintro e' w3 ⟨rfl, hb⟩
  have HX3 := Lib.hid (blk_below HX.out hb)
  have HR3 := Lib.hid (blk_below HR.out hb)
  have B3 := Lib.hid (B2.out.step hb)
  clear hb HX HR B2 OV MD
  go_upto_region 4 with fail
  have HB4 := Lib.hid (heap_alloc_new w3 (Obj.cells #[.int .i64 R, .int .i64 C, .int .i64 k, .int .i64 s, .int .i64 P, .int .i64 Q] 54))
  have HX4 := Lib.hid (blk_alloc HX3.out (Obj.cells #[.int .i64 R, .int .i64 C, .int .i64 k, .int .i64 s, .int .i64 P, .int .i64 Q] 54))
  have HR4 := Lib.hid (blk_alloc HR3.out (Obj.cells #[.int .i64 R, .int .i64 C, .int .i64 k, .int .i64 s, .int .i64 P, .int .i64 Q] 54))
  have B4 := Lib.hid (B3.out.step (below_alloc w3 (Obj.cells #[.int .i64 R, .int .i64 C, .int .i64 k, .int .i64 s, .int .i64 P, .int .i64 Q] 54)))
  have hw3 : w.heap.size + 1 < w3.heap.size := lt_of_block HR3.out
  clear HX3 HR3 B3
  generalize w3.alloc (Obj.cells #[.int .i64 R, .int .i64 C, .int .i64 k, .int .i64 s, .int .i64 P, .int .i64 Q] 54) = w4 at *
  generalize w3.heap.size = bw at *
  have hb0 : b0 < w.heap.size := World.block_lt_of_cell? w _ DC0.out
  obtain ⟨x0, x1, x2, _, _, _⟩ := newTensor HX4.out
  obtain ⟨_, _, _, _, p4, p5⟩ := blk6 HB4.out
  have dc0 := B4.out.cell_of DC0.out
  have dc1 := B4.out.cell_of DC1.out
  have hPs : P ≤ 100 := by have := outW_max R k s 0; rw [HP.out] at this; omega
  have hQs : Q ≤ 100 := by have := outW_max C k s 0; rw [HQ.out] at this; omega
  have H04 := Lib.hid (H0.out.below B4.out)
  have hwr : ∀ z ∈ [d0, d1, (P : Int), (Q : Int)], (Lit.int .i64 z).wf = true := by
    intro z hz
    simp at hz
    rcases hz with rfl | rfl | rfl | rfl
    · exact wf0
    · exact wf1
    · exact WalkArith.wf_i64 (by omega)
    · exact WalkArith.wf_i64 (by omega)
  go_cut [47] (fun v wx => v = .bool (!BB) ∧ Below w4.heap.size w4 wx)
  case first =>
    go_region_held3 (fun w' => w'.cell? ⟨w.heap.size, 0, none⟩ = some (.slice a l c) ∧ w'.cell? ⟨bw, 4, none⟩ = some (.int .i64 P) ∧ w'.cell? ⟨bw, 5, none⟩ = some (.int .i64 Q) ∧ w'.cell? ⟨b0, o0, none⟩ = some (.int .i64 d0) ∧ w'.cell? ⟨b0, o0 + 1, none⟩ = some (.int .i64 d1))
      ((refine ⟨?_, ?_, ?_, ?_, ?_⟩ <;> (repeat (first | assumption | refine cell_alloc1 ?_ _ | refine cell_drew1 ?_ | refine cell_draws ?_ _))))
      (first | (go_at_call 36; ((refine (SM.out _ _ _ _ (by repeat (first | exact H04.out | refine RowAt.alloc1 ?_ _ | refine RowAt.drew1 ?_)) (by repeat (first | exact RowAt.new _ .i64 3 (0, 0) [d0, d1, (P : Int), (Q : Int)] hwr (by simp) | refine RowAt.drew1 ?_))).mono ?_); rintro e7 w7 ⟨rfl, q7, rfl⟩)))
    all_goals
      go_wp2_with fail
      go_meet
      case rel => exact ⟨rfl, (below_alloc _ _).draws _⟩
  case rest =>
    obtain ⟨rfl, hb5⟩ := hcut
    have HX5 := Lib.hid (blk_below HX4.out hb5)
    have HR5 := Lib.hid (blk_below HR4.out hb5)
    have HB5 := Lib.hid (blk_below HB4.out hb5)
    have B5 := Lib.hid (B4.out.step hb5)
    have hs1 : w4.heap.size ≤ wc.heap.size := hb5.size
    have hs2 : bw < w4.heap.size := lt_of_block HB4.out
    obtain ⟨w5, rfl⟩ : ∃ w5 : World, w5 = wc := ⟨_, rfl⟩
    clear hb5 HX4 HR4 HB4 B4 x0 x1 x2 p4 p5 dc0 dc1 SM
    cases BB
    · obtain ⟨z0, z1, z2, y0, y1, y2⟩ := newTensor HR5.out
      go_wp2_with fail
      refine bodyPost_ret (v := .tuple #[.agg #[.slice none 0 0, .int .i64 0, .slice none 0 0], .int .i64 2]) ?_ rfl ?_
      · obtain ⟨t0, t1, t2, _, _, _⟩ := newTensor (store3 (a := .slice none 0 0) (b := .int .i64 0) (c := .slice none 0 0) HR5.out)
        simp [results, Try.results18, go_sem, t0, t1, t2]
      · rw [← HPP.out, if_neg (of_decide_eq_false HBB.out)]
        exact ⟨_, _, _, _, _, _, rfl, RowAt.zero _ _ _, RowAt.zero _ _ _, ((B5.out.setCell (by show w.heap.size ≤ w.heap.size + 1; omega) _).setCell (by show w.heap.size ≤ w.heap.size + 1; omega) _).setCell (by show w.heap.size ≤ w.heap.size + 1; omega) _⟩
    · have hd := of_decide_eq_true HBB.out
      have hP2 := HPP.out
      rw [if_pos hd] at hP2
      have HmN := Lib.hid (HMM.out hd)
      have HP2 := Lib.hid hP2
      clear hd hP2 HPP HMM HBB
      obtain ⟨x0, x1, x2, _, _, _⟩ := newTensor HX5.out
      have H35 := Lib.hid (H3.out.below B5.out)
      go_upto_region 6 with fail
      have hmk := fun w : World => run_make_row' (P := Try.prog) 31 21 (.int .i32 0) 4 Try.underlying31 infoI32 rfl .i64 .i64 n (by omega) (by omega) w
      go_cut [12] (fun s12 wx => AccFill ds 4 E n w5 s12 wx)
      case first =>
        have hE1 := HE.out
        have hE2 : IntKind.i64.wrap E = E := by
          have := HEw.out
          rw [HE.out] at this
          exact this
        go_region_held3 (fun w' => w'.cell? ⟨w.heap.size, 1, none⟩ = some (.int .i64 e)) (first | ((repeat (first | assumption | refine cell_alloc1 ?_ _ | refine cell_drew1 ?_)); done) | go_keep)
          (first
            | (go_at_call 34; ((refine (CL.out _ (by repeat (first | exact H35.out | refine RowAt.alloc1 ?_ _ | refine RowAt.drew1 ?_))).mono ?_); rintro e7 w7 ⟨cc, cs, rfl, rfl, hcs⟩))
            | (go_at_call 28; ((refine (LS.out _).mono ?_); rintro e7 w7 ⟨rfl, rfl⟩))
            | (go_at_call 33; ((refine (SZ.out _ (by repeat (first | exact H35.out | refine RowAt.alloc1 ?_ _ | refine RowAt.drew1 ?_))).mono ?_); rintro e7 w7 ⟨rfl, rfl⟩)))
        all_goals
          go_wp2_with fail
          go_meet
        · obtain ⟨p1, p2, p3, p4, pb⟩ := heap4 w5 _ _ _ _
          exact AccFill.of p4 p2 p3 hcs (pb.draws 2) H35.out hn1 (by omega) (by omega) (by omega) (by omega) (by omega) (by omega)
        · obtain ⟨p1, p2, p3, p4, pb⟩ := heap4 w5 _ _ _ _
          exact AccFill.of p3 p2 p4 hcs (pb.draws 2) H35.out hn1 (by omega) (by omega) (by omega) (by omega) (by omega) (by omega)
        · obtain ⟨p1, p2, p3, p4, pb⟩ := heap4 w5 _ _ _ _
          exact AccFill.of p3 p2 p4 hcs (pb.draws 2) H35.out hn1 (by omega) (by omega) (by omega) (by omega) (by omega) (by omega)
        · obtain ⟨p1, p2, p3, p4, pb⟩ := heap4 w5 _ _ _ _
          exact AccFill.of p3 p2 p4 hcs (pb.draws 2) H35.out hn1 (by omega) (by omega) (by omega) (by omega) (by omega) (by omega)
        · obtain ⟨p1, p2, p3, p4, pb⟩ := heap4 w5 _ _ _ _
          exact AccFill.of p1 p3 p4 hcs (pb.draws 2) H35.out hn1 (by omega) (by omega) (by omega) (by omega) (by omega) (by omega)
      case rest =>
        obtain ⟨bo, bl, cl, bd, rfl, ho, hrl, hown, hb6, g1, g2, g3, g4, g5, g6⟩ := hcut
        obtain ⟨w6, rfl⟩ : ∃ w6 : World, w6 = wc := ⟨_, rfl⟩
        have HO6 := Lib.hid ho
        have HL6 := Lib.hid hrl
        have HX6 := Lib.hid (blk_below HX5.out hb6)
        have HR6 := Lib.hid (blk_below HR5.out hb6)
        have HB6 := Lib.hid (blk_below HB5.out hb6)
        have B6 := Lib.hid (B5.out.step hb6)
        have hs3 : w5.heap.size ≤ w6.heap.size := hb6.size
        have hs4 : bo < w6.heap.size := lt_of_block HO6.out
        have hs5 : bd < w6.heap.size := (hown.lt bd rfl).2
        have hs6 : bl < w6.heap.size := HL6.out.lt (by omega)
        have hs7 : w.heap.size + 1 < w5.heap.size := lt_of_block HR5.out
        have HM0 := Lib.hid (show SumAt w5.heap.size bo bd (.slice (some ⟨bl, 0, none⟩) 4 cl) (.int .i64 E) n [] w6.drew from ⟨ho, hown.drew, fun e => g5 e.symm⟩)
        clear ho hown hrl hb6 x0 x1 x2 CL LS SZ hmk
        go_wp2_with fail
        have hm0 : 0 < m := by rw [HmN.out]; exact Nat.mul_pos hN0 (Nat.mul_pos hP0 hQ0)
        have HB1 := Lib.hid (show ∀ x, b = some x → x.block ≠ bd ∧ x.block < w6.drew.heap.size from fun x hx => by
          obtain ⟨bb, oo, e, hc⟩ := H1.out.cells hm0
          have := World.block_lt_of_cell? w _ (hc 0 hm0)
          rw [hx] at e
          cases e
          show bb ≠ bd ∧ bb < w6.heap.size
          have h2 : bb < w.heap.size := this
          omega)
        have ME := Lib.hid (backEach w6.drew b m k0 z R C k s P Q N w.heap.size bo bd n w5.heap.size _ _ _ _ HP.out HQ.out hP0 hQ0 hN2 HmN.out hm8 HNN.out hn1 ((H1.out.below B6.out).draws 1) HX6.out HM0.out (by omega) hs5 HB1.out)
        unfold windows at ME
        have hN := HN.out
        have hNw : IntKind.i64.wrap (N : Int) = N := wrap_small N (by omega)
        obtain ⟨x0, _, _, _, _, _⟩ := newTensor HX6.out
        obtain ⟨p0, p1, p2, p3, p4, p5⟩ := blk6 HB6.out
        have dc0 := B6.out.cell_of DC0.out
        have dc1 := B6.out.cell_of DC1.out
        have nbw := Lib.hid (show ¬ (bw = bd) by omega)
        have nb0 := Lib.hid (show ¬ (b0 = bd) by omega)
        have lbw := Lib.hid (show bw < w6.heap.size by omega)
        have lb0 := Lib.hid (show b0 < w6.heap.size by omega)
        go_region_held3 (fun w' => (w'.cell? ⟨bw, 0, none⟩ = some (.int .i64 R) ∧ w'.cell? ⟨bw, 1, none⟩ = some (.int .i64 C) ∧ w'.cell? ⟨bw, 2, none⟩ = some (.int .i64 k) ∧ w'.cell? ⟨bw, 3, none⟩ = some (.int .i64 s) ∧ w'.cell? ⟨bw, 4, none⟩ = some (.int .i64 P) ∧ w'.cell? ⟨bw, 5, none⟩ = some (.int .i64 Q)) ∧ w'.cell? ⟨b0, o0, none⟩ = some (.int .i64 d0) ∧ w'.cell? ⟨b0, o0 + 1, none⟩ = some (.int .i64 d1))
          (first
            | go_keep
            | exact ⟨⟨hkp.out.cell lbw.out nbw.out p0, hkp.out.cell lbw.out nbw.out p1, hkp.out.cell lbw.out nbw.out p2, hkp.out.cell lbw.out nbw.out p3, hkp.out.cell lbw.out nbw.out p4, hkp.out.cell lbw.out nbw.out p5⟩, hkp.out.cell lb0.out nb0.out dc0, hkp.out.cell lb0.out nb0.out dc1⟩)
          (first | (go_at_call 26; (refine ME.out.mono ?_); rintro e6 w7 ⟨rfl, hma, hka⟩; have hkp := Lib.hid hka; have hmx := Lib.hid hma; clear hma hka))
        obtain ⟨ho7, hown7, _⟩ := hmx.out
        have hr7 := (hkp.out.block (w.heap.size + 1) (by show w.heap.size + 1 < w6.heap.size; omega) (by show ¬ (w.heap.size + 1 = bd); omega)).trans HR6.out
        have hNPQ : N * (P * Q) ≤ 8192 := by rw [← HmN.out]; exact hm8
        have hwf := T.puts_wf n (T.backs z R C k s P Q (N * (P * Q))) (T.backs_bound H1.out.wf) (by have := T.length_backs z R C k s P Q (N * (P * Q)); omega)
        have HRV := Lib.hid (RowAt.owned hown7 hwf (by omega))
        have HRD := Lib.hid (hkp.out.rowIn (HL6.out.draws 1) (fun x hx => by cases hx; exact ⟨hs6, fun e => g6 e.symm⟩))
        have B7 := Lib.hid (hkp.out.toBelow (B6.out.draws 1) (by show w.heap.size ≤ w6.heap.size; omega) (by rintro g rfl; omega))
        obtain ⟨q0, q1, q2, _, _, _⟩ := newTensor ho7
        have HR7 := Lib.hid hr7
        obtain ⟨u0, u1, u2, u3, u4, u5⟩ := newTensor hr7
        clear hr7 ho7 hown7 hwf x0 p0 p1 p2 p3 p4 p5 dc0 dc1 hmx HB6 HX6 HO6 ME
        go_wp2_with fail
        refine bodyPost_ret (v := .tuple #[.agg #[.slice (some ⟨bl, 0, none⟩) 4 cl, .int .i64 E, .slice (some ⟨bd, 0, none⟩) n n], .int .i64 0]) ?_ rfl ?_
        · obtain ⟨r0, r1, r2, _, _, _⟩ := newTensor (store3 (a := .slice (some ⟨bl, 0, none⟩) 4 cl) (b := .int .i64 E) (c := .slice (some ⟨bd, 0, none⟩) n n) HR7.out)
          simp [results, Try.results18, go_sem, r0, r1, r2]
        · rw [← HP2.out]
          exact ⟨_, _, _, _, _, _, rfl, HRD.out.set3 (fun x hx => by cases hx; show bl ≠ w.heap.size + 1; omega), HRV.out.set3 (fun x hx => by cases hx; show bd ≠ w.heap.size + 1; omega), ((B7.out.setCell (by show w.heap.size ≤ w.heap.size + 1; omega) _).setCell (by show w.heap.size ≤ w.heap.size + 1; omega) _).setCell (by show w.heap.size ≤ w.heap.size + 1; omega) _⟩
end Go.Proofs.Ytaijiihlkcbdhaa
