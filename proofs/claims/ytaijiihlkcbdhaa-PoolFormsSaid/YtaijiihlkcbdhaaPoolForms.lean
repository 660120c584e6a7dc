/-
  The walk of the law PoolForms.
-/
import Derived.Test.YtaijiihlkcbdhaaRefGen
import Derived.Test.YtaijiihlkcbdhaaSameAcc
namespace Go.Proofs.Ytaijiihlkcbdhaa
open Go.RowKit
set_option linter.unusedVariables false
attribute [local go_sem ↓] Go.wp_at_zero Go.wp_at_succ
theorem cellsSix (w : World) (u0 u1 u2 u3 u4 u5 : Value) (t : TypeId) : (w.alloc (.cells #[u0, u1, u2, u3, u4, u5] t)).cell? ⟨w.heap.size, 0, none⟩ = some u0 ∧ (w.alloc (.cells #[u0, u1, u2, u3, u4, u5] t)).cell? ⟨w.heap.size, 1, none⟩ = some u1 ∧ (w.alloc (.cells #[u0, u1, u2, u3, u4, u5] t)).cell? ⟨w.heap.size, 2, none⟩ = some u2 ∧ (w.alloc (.cells #[u0, u1, u2, u3, u4, u5] t)).cell? ⟨w.heap.size, 3, none⟩ = some u3 ∧ (w.alloc (.cells #[u0, u1, u2, u3, u4, u5] t)).cell? ⟨w.heap.size, 4, none⟩ = some u4 ∧ (w.alloc (.cells #[u0, u1, u2, u3, u4, u5] t)).cell? ⟨w.heap.size, 5, none⟩ = some u5 := by
  refine ⟨?_, ?_, ?_, ?_, ?_, ?_⟩ <;> (rw [World.cell?_alloc_new]; rfl)
set_option maxRecDepth 100000 in
set_option maxHeartbeats 16000000 in
theorem poolForms_any (xa : Option Addr) (xl xc : Nat) (xd : List Int) (xe : Int) (xb : Option Addr) (xm xk : Nat) (xz : List Int) (ga : Option Addr) (gl gc : Nat) (gd : List Int) (ge : Int) (gb : Option Addr) (gm gk : Nat) (gz : List Int) (k s : Int) (fa : Option Addr) (fl fc : Nat) (fs : List Int) (da : Option Addr) (dl dc : Nat) (ds : List Int) (w : World)
    (x0 : RowAt .i64 w xa xl xd) (x1 : RowAt .i8 w xb xm xz) (g0 : RowAt .i64 w ga gl gd) (g1 : RowAt .i8 w gb gm gz) (f0 : RowAt .i64 w fa fl fs) (d0 : RowAt .i64 w da dl ds) :
    Calls Try.prog 7 #[tensor xa xl xc xe xb xm xk, tensor ga gl gc ge gb gm gk, .int .i64 k, .int .i64 s, .slice fa fl fc, .slice da dl dc] w (GivesV (.bool true) w) := by
  have hxm := x1.len_le
  have hgm := g1.len_le
  have hfl := f0.len_le
  have b1 := below_alloc w (Obj.cells #[.slice xa xl xc, .int .i64 xe, .slice xb xm xk] 25)
  have b2 := below_alloc (w.alloc (Obj.cells #[.slice xa xl xc, .int .i64 xe, .slice xb xm xk] 25)) (Obj.cells #[.slice ga gl gc, .int .i64 ge, .slice gb gm gk] 25)
  have n1 := blk_below (tensor_cells w xa xl xc xe xb xm xk 25) b2
  have n2 := tensor_cells (w.alloc (Obj.cells #[.slice xa xl xc, .int .i64 xe, .slice xb xm xk] 25)) ga gl gc ge gb gm gk 25
  rw [World.size_alloc] at n2
  have bb := b1.step b2
  generalize hw2 : (w.alloc (Obj.cells #[.slice xa xl xc, .int .i64 xe, .slice xb xm xk] 25)).alloc (Obj.cells #[.slice ga gl gc, .int .i64 ge, .slice gb gm gk] 25) = w2 at *
  have z2 : w2.heap.size = w.heap.size + 1 + 1 := by rw [← hw2, World.size_alloc, World.size_alloc]
  have b3 := below_alloc w2 (Obj.cells #[.slice xa xl xc, .int .i64 xe, .slice xb xm xk, .slice ga gl gc, .int .i64 ge, .slice gb gm gk] 25)
  have LT := light_any w2.heap.size 2 (by omega) [xm, gm] (w2.alloc (Obj.cells #[.slice xa xl xc, .int .i64 xe, .slice xb xm xk, .slice ga gl gc, .int .i64 ge, .slice gb gm gk] 25)) (by
    obtain ⟨c0, c1, c2, c3, c4, c5⟩ := cellsSix w2 (.slice xa xl xc) (.int .i64 xe) (.slice xb xm xk) (.slice ga gl gc) (.int .i64 ge) (.slice gb gm gk) 25
    refine ⟨rfl, fun i hi => ?_⟩
    by_cases h : i = 0
    · subst h
      exact ⟨xa, xl, xc, xe, xb, xk, by show xm ≤ _; omega, c0, c1, c2⟩
    · obtain rfl : i = 1 := by omega
      exact ⟨ga, gl, gc, ge, gb, gk, by show gm ≤ _; omega, c3, c4, c5⟩)
  obtain ⟨B, hB⟩ : ∃ B, decide ([xm, gm].sum ≤ 2000) = B := ⟨_, rfl⟩
  rw [hB] at LT
  have HLT := Lib.hid LT
  have N1 := Lib.hid n1
  have N2 := Lib.hid n2
  have BB := Lib.hid bb
  have X0 := Lib.hid (x0.below bb)
  have X1 := Lib.hid (x1.below bb)
  have G0 := Lib.hid (g0.below bb)
  have G1 := Lib.hid (g1.below bb)
  have F0 := Lib.hid (f0.below bb)
  have D0 := Lib.hid (d0.below bb)
  have HW2 := Lib.hid hw2
  have HZ2 := Lib.hid z2
  have B3 := Lib.hid b3
  clear x0 x1 g0 g1 f0 d0 b1 b2 n1 n2 bb hw2 z2 LT hB b3
  unfold tensor
  go_enter Try.func7, Try.ntmps7
  go_wp2_with fail
  rw [HW2.out]
  try rw [← HZ2.out]
  refine HLT.out.mono ?_
  rintro e1 w3 ⟨rfl, hb3⟩
  have hb4 := B3.out.step hb3
  have N1' := Lib.hid (blk_below N1.out hb4)
  have N2' := Lib.hid (blk_below N2.out hb4)
  have BB' := Lib.hid (BB.out.step hb4)
  have X0' := Lib.hid (X0.out.below hb4)
  have X1' := Lib.hid (X1.out.below hb4)
  have G0' := Lib.hid (G0.out.below hb4)
  have G1' := Lib.hid (G1.out.below hb4)
  have F0' := Lib.hid (F0.out.below hb4)
  have D0' := Lib.hid (D0.out.below hb4)
  clear N1 N2 BB X0 X1 G0 G1 F0 D0 HLT HW2 HZ2 B3 hb3 hb4
  by_cases hok : B = true ∧ fl ≤ 2000
  case neg =>
    cases B
    · go_wp2_with fail
      refine (awakeP_any _).mono ?_
      rintro e1 w4 ⟨rfl, hb4⟩
      go_wp2
      go_ret
      exact ⟨rfl, BB'.out.step hb4⟩
    · have c1 : decide ((2000 : Int) < (fl : Int)) = true := decide_eq_true (by have h2 : ¬ fl ≤ 2000 := fun h => hok ⟨rfl, h⟩; omega)
      go_wp2_with fail
      refine (awakeP_any _).mono ?_
      rintro e1 w4 ⟨rfl, hb4⟩
      go_wp2
      go_ret
      exact ⟨rfl, BB'.out.step hb4⟩
  case pos =>
  obtain ⟨rfl, hf2⟩ := hok
  obtain ⟨u0, u1, u2, _⟩ := newTensor N1'.out
  have M := max_gen xa xl xc xd xe xb xm xk xz k s w3 X0'.out X1'.out
  unfold tensor at M
  have HM := Lib.hid M
  clear M
  go_wp2_with fail
  refine HM.out.mono ?_
  rintro r1 v1 ⟨a1, l1, c1, b1, m1, k1, t1, o1, q1, rfl, rd, rz, rt, hb⟩
  have xc1 := tensor_cells v1 a1 l1 c1 (T.gExp xd xe xz k s) b1 m1 k1 25
  have hb' := below_alloc v1 (Obj.cells #[.slice a1 l1 c1, .int .i64 (T.gExp xd xe xz k s), .slice b1 m1 k1] 25)
  have hbb := hb.step hb'
  clear HM u0 u1 u2
  have N1_1 := Lib.hid (blk_below N1'.out hbb)
  have N2_1 := Lib.hid (blk_below N2'.out hbb)
  have X0_1 := Lib.hid (X0'.out.below hbb)
  have X1_1 := Lib.hid (X1'.out.below hbb)
  have G0_1 := Lib.hid (G0'.out.below hbb)
  have G1_1 := Lib.hid (G1'.out.below hbb)
  have F0_1 := Lib.hid (F0'.out.below hbb)
  have D0_1 := Lib.hid (D0'.out.below hbb)
  have BB_1 := Lib.hid (BB'.out.step hbb)
  clear N1' N2' X0' X1' G0' G1' F0' D0' BB'
  have R1 := Lib.hid xc1
  have P1 := Lib.hid (rd.below hb')
  have Q1 := Lib.hid (rz.below hb')
  have S1 := Lib.hid (rt.below hb')
  clear xc1 rd rz hb hb' hbb rt
  unfold tensor
  obtain ⟨u0, u1, u2, _⟩ := newTensor N1_1.out
  go_wp2_with fail
  generalize v1.alloc (Obj.cells #[.slice a1 l1 c1, .int .i64 (T.gExp xd xe xz k s), .slice b1 m1 k1] 25) = w4 at *
  generalize v1.heap.size = g1 at *
  clear u0 u1 u2
  obtain ⟨u0, u1, u2, _⟩ := newTensor N1_1.out
  have M := refMax_gen xa xl xc xd xe xb xm xk xz k s w4 X0_1.out X1_1.out
  unfold tensor at M
  have HM := Lib.hid M
  clear M
  go_wp2_with fail
  refine HM.out.mono ?_
  rintro r2 v2 ⟨a2, l2, c2, b2, m2, k2, t2, o2, q2, rfl, rd, rz, rt, hb⟩
  have xc2 := tensor_cells v2 a2 l2 c2 (T.gExp xd xe xz k s) b2 m2 k2 25
  have hb' := below_alloc v2 (Obj.cells #[.slice a2 l2 c2, .int .i64 (T.gExp xd xe xz k s), .slice b2 m2 k2] 25)
  have hbb := hb.step hb'
  clear HM u0 u1 u2
  have N1_2 := Lib.hid (blk_below N1_1.out hbb)
  have N2_2 := Lib.hid (blk_below N2_1.out hbb)
  have X0_2 := Lib.hid (X0_1.out.below hbb)
  have X1_2 := Lib.hid (X1_1.out.below hbb)
  have G0_2 := Lib.hid (G0_1.out.below hbb)
  have G1_2 := Lib.hid (G1_1.out.below hbb)
  have F0_2 := Lib.hid (F0_1.out.below hbb)
  have D0_2 := Lib.hid (D0_1.out.below hbb)
  have R1_2 := Lib.hid (blk_below R1.out hbb)
  have P1_2 := Lib.hid (P1.out.below hbb)
  have Q1_2 := Lib.hid (Q1.out.below hbb)
  have S1_2 := Lib.hid (S1.out.below hbb)
  have BB_2 := Lib.hid (BB_1.out.step hbb)
  clear N1_1 N2_1 X0_1 X1_1 G0_1 G1_1 F0_1 D0_1 R1 P1 Q1 S1 BB_1
  have R2 := Lib.hid xc2
  have P2 := Lib.hid (rd.below hb')
  have Q2 := Lib.hid (rz.below hb')
  have S2 := Lib.hid (rt.below hb')
  clear xc2 rd rz hb hb' hbb rt
  unfold tensor
  obtain ⟨u0, u1, u2, _⟩ := newTensor N2_2.out
  go_wp2_with fail
  generalize v2.alloc (Obj.cells #[.slice a2 l2 c2, .int .i64 (T.gExp xd xe xz k s), .slice b2 m2 k2] 25) = w5 at *
  generalize v2.heap.size = g2 at *
  clear u0 u1 u2
  obtain ⟨u0, u1, u2, _⟩ := newTensor N2_2.out
  have M := maxBack_gen ga gl gc gd ge gb gm gk gz fa fl fc fs da dl dc ds w5 G0_2.out G1_2.out F0_2.out D0_2.out
  unfold tensor at M
  have HM := Lib.hid M
  clear M
  go_wp2_with fail
  refine HM.out.mono ?_
  rintro r3 v3 ⟨a3, l3, c3, b3, m3, k3, rfl, rd, rz, hb⟩
  have xc3 := tensor_cells v3 a3 l3 c3 (T.bExp gd ge gz fs ds) b3 m3 k3 33
  have hb' := below_alloc v3 (Obj.cells #[.slice a3 l3 c3, .int .i64 (T.bExp gd ge gz fs ds), .slice b3 m3 k3] 33)
  have hbb := hb.step hb'
  clear HM u0 u1 u2
  have N1_3 := Lib.hid (blk_below N1_2.out hbb)
  have N2_3 := Lib.hid (blk_below N2_2.out hbb)
  have X0_3 := Lib.hid (X0_2.out.below hbb)
  have X1_3 := Lib.hid (X1_2.out.below hbb)
  have G0_3 := Lib.hid (G0_2.out.below hbb)
  have G1_3 := Lib.hid (G1_2.out.below hbb)
  have F0_3 := Lib.hid (F0_2.out.below hbb)
  have D0_3 := Lib.hid (D0_2.out.below hbb)
  have R1_3 := Lib.hid (blk_below R1_2.out hbb)
  have P1_3 := Lib.hid (P1_2.out.below hbb)
  have Q1_3 := Lib.hid (Q1_2.out.below hbb)
  have S1_3 := Lib.hid (S1_2.out.below hbb)
  have R2_3 := Lib.hid (blk_below R2.out hbb)
  have P2_3 := Lib.hid (P2.out.below hbb)
  have Q2_3 := Lib.hid (Q2.out.below hbb)
  have S2_3 := Lib.hid (S2.out.below hbb)
  have BB_3 := Lib.hid (BB_2.out.step hbb)
  clear N1_2 N2_2 X0_2 X1_2 G0_2 G1_2 F0_2 D0_2 R1_2 P1_2 Q1_2 S1_2 R2 P2 Q2 S2 BB_2
  have R3 := Lib.hid xc3
  have P3 := Lib.hid (rd.below hb')
  have Q3 := Lib.hid (rz.below hb')
  clear xc3 rd rz hb hb' hbb
  unfold tensor
  obtain ⟨u0, u1, u2, _⟩ := newTensor N2_3.out
  go_wp2_with fail
  generalize v3.alloc (Obj.cells #[.slice a3 l3 c3, .int .i64 (T.bExp gd ge gz fs ds), .slice b3 m3 k3] 33) = w6 at *
  generalize v3.heap.size = g3 at *
  clear u0 u1 u2
  obtain ⟨u0, u1, u2, _⟩ := newTensor N2_3.out
  have M := refMaxBack_gen ga gl gc gd ge gb gm gk gz fa fl fc fs da dl dc ds w6 G0_3.out G1_3.out F0_3.out D0_3.out
  unfold tensor at M
  have HM := Lib.hid M
  clear M
  go_wp2_with fail
  refine HM.out.mono ?_
  rintro r4 v4 ⟨a4, l4, c4, b4, m4, k4, rfl, rd, rz, hb⟩
  have xc4 := tensor_cells v4 a4 l4 c4 (T.bExp gd ge gz fs ds) b4 m4 k4 33
  have hb' := below_alloc v4 (Obj.cells #[.slice a4 l4 c4, .int .i64 (T.bExp gd ge gz fs ds), .slice b4 m4 k4] 33)
  have hbb := hb.step hb'
  clear HM u0 u1 u2
  have N1_4 := Lib.hid (blk_below N1_3.out hbb)
  have N2_4 := Lib.hid (blk_below N2_3.out hbb)
  have X0_4 := Lib.hid (X0_3.out.below hbb)
  have X1_4 := Lib.hid (X1_3.out.below hbb)
  have G0_4 := Lib.hid (G0_3.out.below hbb)
  have G1_4 := Lib.hid (G1_3.out.below hbb)
  have F0_4 := Lib.hid (F0_3.out.below hbb)
  have D0_4 := Lib.hid (D0_3.out.below hbb)
  have R1_4 := Lib.hid (blk_below R1_3.out hbb)
  have P1_4 := Lib.hid (P1_3.out.below hbb)
  have Q1_4 := Lib.hid (Q1_3.out.below hbb)
  have S1_4 := Lib.hid (S1_3.out.below hbb)
  have R2_4 := Lib.hid (blk_below R2_3.out hbb)
  have P2_4 := Lib.hid (P2_3.out.below hbb)
  have Q2_4 := Lib.hid (Q2_3.out.below hbb)
  have S2_4 := Lib.hid (S2_3.out.below hbb)
  have R3_4 := Lib.hid (blk_below R3.out hbb)
  have P3_4 := Lib.hid (P3.out.below hbb)
  have Q3_4 := Lib.hid (Q3.out.below hbb)
  have BB_4 := Lib.hid (BB_3.out.step hbb)
  clear N1_3 N2_3 X0_3 X1_3 G0_3 G1_3 F0_3 D0_3 R1_3 P1_3 Q1_3 S1_3 R2_3 P2_3 Q2_3 S2_3 R3 P3 Q3 BB_3
  have R4 := Lib.hid xc4
  have P4 := Lib.hid (rd.below hb')
  have Q4 := Lib.hid (rz.below hb')
  clear xc4 rd rz hb hb' hbb
  unfold tensor
  obtain ⟨u0, u1, u2, _⟩ := newTensor N1_4.out
  go_wp2_with fail
  generalize v4.alloc (Obj.cells #[.slice a4 l4 c4, .int .i64 (T.bExp gd ge gz fs ds), .slice b4 m4 k4] 33) = w7 at *
  generalize v4.heap.size = g4 at *
  clear u0 u1 u2
  obtain ⟨u0, u1, u2, _⟩ := newTensor N1_4.out
  have M := avg_gen xa xl xc xd xe xb xm xk xz k s w7 X0_4.out X1_4.out
  unfold tensor at M
  have HM := Lib.hid M
  clear M
  go_wp2_with fail
  refine HM.out.mono ?_
  rintro r5 v5 ⟨a5, l5, c5, b5, m5, k5, rfl, rd, rz, hb⟩
  have xc5 := tensor_cells v5 a5 l5 c5 (T.gLess xd xe xz k s) b5 m5 k5 33
  have hb' := below_alloc v5 (Obj.cells #[.slice a5 l5 c5, .int .i64 (T.gLess xd xe xz k s), .slice b5 m5 k5] 33)
  have hbb := hb.step hb'
  clear HM u0 u1 u2
  have N1_5 := Lib.hid (blk_below N1_4.out hbb)
  have N2_5 := Lib.hid (blk_below N2_4.out hbb)
  have X0_5 := Lib.hid (X0_4.out.below hbb)
  have X1_5 := Lib.hid (X1_4.out.below hbb)
  have G0_5 := Lib.hid (G0_4.out.below hbb)
  have G1_5 := Lib.hid (G1_4.out.below hbb)
  have F0_5 := Lib.hid (F0_4.out.below hbb)
  have D0_5 := Lib.hid (D0_4.out.below hbb)
  have R1_5 := Lib.hid (blk_below R1_4.out hbb)
  have P1_5 := Lib.hid (P1_4.out.below hbb)
  have Q1_5 := Lib.hid (Q1_4.out.below hbb)
  have S1_5 := Lib.hid (S1_4.out.below hbb)
  have R2_5 := Lib.hid (blk_below R2_4.out hbb)
  have P2_5 := Lib.hid (P2_4.out.below hbb)
  have Q2_5 := Lib.hid (Q2_4.out.below hbb)
  have S2_5 := Lib.hid (S2_4.out.below hbb)
  have R3_5 := Lib.hid (blk_below R3_4.out hbb)
  have P3_5 := Lib.hid (P3_4.out.below hbb)
  have Q3_5 := Lib.hid (Q3_4.out.below hbb)
  have R4_5 := Lib.hid (blk_below R4.out hbb)
  have P4_5 := Lib.hid (P4.out.below hbb)
  have Q4_5 := Lib.hid (Q4.out.below hbb)
  have BB_5 := Lib.hid (BB_4.out.step hbb)
  clear N1_4 N2_4 X0_4 X1_4 G0_4 G1_4 F0_4 D0_4 R1_4 P1_4 Q1_4 S1_4 R2_4 P2_4 Q2_4 S2_4 R3_4 P3_4 Q3_4 R4 P4 Q4 BB_4
  have R5 := Lib.hid xc5
  have P5 := Lib.hid (rd.below hb')
  have Q5 := Lib.hid (rz.below hb')
  clear xc5 rd rz hb hb' hbb
  unfold tensor
  obtain ⟨u0, u1, u2, _⟩ := newTensor N1_5.out
  go_wp2_with fail
  generalize v5.alloc (Obj.cells #[.slice a5 l5 c5, .int .i64 (T.gLess xd xe xz k s), .slice b5 m5 k5] 33) = w8 at *
  generalize v5.heap.size = g5 at *
  clear u0 u1 u2
  obtain ⟨u0, u1, u2, _⟩ := newTensor N1_5.out
  have M := refAvg_gen xa xl xc xd xe xb xm xk xz k s w8 X0_5.out X1_5.out
  unfold tensor at M
  have HM := Lib.hid M
  clear M
  go_wp2_with fail
  refine HM.out.mono ?_
  rintro r6 v6 ⟨a6, l6, c6, b6, m6, k6, rfl, rd, rz, hb⟩
  have xc6 := tensor_cells v6 a6 l6 c6 (T.gLess xd xe xz k s) b6 m6 k6 33
  have hb' := below_alloc v6 (Obj.cells #[.slice a6 l6 c6, .int .i64 (T.gLess xd xe xz k s), .slice b6 m6 k6] 33)
  have hbb := hb.step hb'
  clear HM u0 u1 u2
  have N1_6 := Lib.hid (blk_below N1_5.out hbb)
  have N2_6 := Lib.hid (blk_below N2_5.out hbb)
  have X0_6 := Lib.hid (X0_5.out.below hbb)
  have X1_6 := Lib.hid (X1_5.out.below hbb)
  have G0_6 := Lib.hid (G0_5.out.below hbb)
  have G1_6 := Lib.hid (G1_5.out.below hbb)
  have F0_6 := Lib.hid (F0_5.out.below hbb)
  have D0_6 := Lib.hid (D0_5.out.below hbb)
  have R1_6 := Lib.hid (blk_below R1_5.out hbb)
  have P1_6 := Lib.hid (P1_5.out.below hbb)
  have Q1_6 := Lib.hid (Q1_5.out.below hbb)
  have S1_6 := Lib.hid (S1_5.out.below hbb)
  have R2_6 := Lib.hid (blk_below R2_5.out hbb)
  have P2_6 := Lib.hid (P2_5.out.below hbb)
  have Q2_6 := Lib.hid (Q2_5.out.below hbb)
  have S2_6 := Lib.hid (S2_5.out.below hbb)
  have R3_6 := Lib.hid (blk_below R3_5.out hbb)
  have P3_6 := Lib.hid (P3_5.out.below hbb)
  have Q3_6 := Lib.hid (Q3_5.out.below hbb)
  have R4_6 := Lib.hid (blk_below R4_5.out hbb)
  have P4_6 := Lib.hid (P4_5.out.below hbb)
  have Q4_6 := Lib.hid (Q4_5.out.below hbb)
  have R5_6 := Lib.hid (blk_below R5.out hbb)
  have P5_6 := Lib.hid (P5.out.below hbb)
  have Q5_6 := Lib.hid (Q5.out.below hbb)
  have BB_6 := Lib.hid (BB_5.out.step hbb)
  clear N1_5 N2_5 X0_5 X1_5 G0_5 G1_5 F0_5 D0_5 R1_5 P1_5 Q1_5 S1_5 R2_5 P2_5 Q2_5 S2_5 R3_5 P3_5 Q3_5 R4_5 P4_5 Q4_5 R5 P5 Q5 BB_5
  have R6 := Lib.hid xc6
  have P6 := Lib.hid (rd.below hb')
  have Q6 := Lib.hid (rz.below hb')
  clear xc6 rd rz hb hb' hbb
  unfold tensor
  obtain ⟨u0, u1, u2, _⟩ := newTensor N2_6.out
  go_wp2_with fail
  generalize v6.alloc (Obj.cells #[.slice a6 l6 c6, .int .i64 (T.gLess xd xe xz k s), .slice b6 m6 k6] 33) = w9 at *
  generalize v6.heap.size = g6 at *
  clear u0 u1 u2
  obtain ⟨u0, u1, u2, _⟩ := newTensor N2_6.out
  have M := avgBack_gen ga gl gc gd ge gb gm gk gz da dl dc ds k s w9 G0_6.out G1_6.out D0_6.out
  unfold tensor at M
  have HM := Lib.hid M
  clear M
  go_wp2_with fail
  refine HM.out.mono ?_
  rintro r7 v7 ⟨a7, l7, c7, b7, m7, k7, rfl, rd, rz, hb⟩
  have xc7 := tensor_cells v7 a7 l7 c7 (T.aExp gd ge gz ds k s) b7 m7 k7 33
  have hb' := below_alloc v7 (Obj.cells #[.slice a7 l7 c7, .int .i64 (T.aExp gd ge gz ds k s), .slice b7 m7 k7] 33)
  have hbb := hb.step hb'
  clear HM u0 u1 u2
  have N1_7 := Lib.hid (blk_below N1_6.out hbb)
  have N2_7 := Lib.hid (blk_below N2_6.out hbb)
  have X0_7 := Lib.hid (X0_6.out.below hbb)
  have X1_7 := Lib.hid (X1_6.out.below hbb)
  have G0_7 := Lib.hid (G0_6.out.below hbb)
  have G1_7 := Lib.hid (G1_6.out.below hbb)
  have F0_7 := Lib.hid (F0_6.out.below hbb)
  have D0_7 := Lib.hid (D0_6.out.below hbb)
  have R1_7 := Lib.hid (blk_below R1_6.out hbb)
  have P1_7 := Lib.hid (P1_6.out.below hbb)
  have Q1_7 := Lib.hid (Q1_6.out.below hbb)
  have S1_7 := Lib.hid (S1_6.out.below hbb)
  have R2_7 := Lib.hid (blk_below R2_6.out hbb)
  have P2_7 := Lib.hid (P2_6.out.below hbb)
  have Q2_7 := Lib.hid (Q2_6.out.below hbb)
  have S2_7 := Lib.hid (S2_6.out.below hbb)
  have R3_7 := Lib.hid (blk_below R3_6.out hbb)
  have P3_7 := Lib.hid (P3_6.out.below hbb)
  have Q3_7 := Lib.hid (Q3_6.out.below hbb)
  have R4_7 := Lib.hid (blk_below R4_6.out hbb)
  have P4_7 := Lib.hid (P4_6.out.below hbb)
  have Q4_7 := Lib.hid (Q4_6.out.below hbb)
  have R5_7 := Lib.hid (blk_below R5_6.out hbb)
  have P5_7 := Lib.hid (P5_6.out.below hbb)
  have Q5_7 := Lib.hid (Q5_6.out.below hbb)
  have R6_7 := Lib.hid (blk_below R6.out hbb)
  have P6_7 := Lib.hid (P6.out.below hbb)
  have Q6_7 := Lib.hid (Q6.out.below hbb)
  have BB_7 := Lib.hid (BB_6.out.step hbb)
  clear N1_6 N2_6 X0_6 X1_6 G0_6 G1_6 F0_6 D0_6 R1_6 P1_6 Q1_6 S1_6 R2_6 P2_6 Q2_6 S2_6 R3_6 P3_6 Q3_6 R4_6 P4_6 Q4_6 R5_6 P5_6 Q5_6 R6 P6 Q6 BB_6
  have R7 := Lib.hid xc7
  have P7 := Lib.hid (rd.below hb')
  have Q7 := Lib.hid (rz.below hb')
  clear xc7 rd rz hb hb' hbb
  unfold tensor
  obtain ⟨u0, u1, u2, _⟩ := newTensor N2_7.out
  go_wp2_with fail
  generalize v7.alloc (Obj.cells #[.slice a7 l7 c7, .int .i64 (T.aExp gd ge gz ds k s), .slice b7 m7 k7] 33) = w10 at *
  generalize v7.heap.size = g7 at *
  clear u0 u1 u2
  obtain ⟨u0, u1, u2, _⟩ := newTensor N2_7.out
  have M := refAvgBack_gen ga gl gc gd ge gb gm gk gz da dl dc ds k s w10 G0_7.out G1_7.out D0_7.out
  unfold tensor at M
  have HM := Lib.hid M
  clear M
  go_wp2_with fail
  refine HM.out.mono ?_
  rintro r8 v8 ⟨a8, l8, c8, b8, m8, k8, rfl, rd, rz, hb⟩
  have xc8 := tensor_cells v8 a8 l8 c8 (T.aExp gd ge gz ds k s) b8 m8 k8 33
  have hb' := below_alloc v8 (Obj.cells #[.slice a8 l8 c8, .int .i64 (T.aExp gd ge gz ds k s), .slice b8 m8 k8] 33)
  have hbb := hb.step hb'
  clear HM u0 u1 u2
  have N1_8 := Lib.hid (blk_below N1_7.out hbb)
  have N2_8 := Lib.hid (blk_below N2_7.out hbb)
  have X0_8 := Lib.hid (X0_7.out.below hbb)
  have X1_8 := Lib.hid (X1_7.out.below hbb)
  have G0_8 := Lib.hid (G0_7.out.below hbb)
  have G1_8 := Lib.hid (G1_7.out.below hbb)
  have F0_8 := Lib.hid (F0_7.out.below hbb)
  have D0_8 := Lib.hid (D0_7.out.below hbb)
  have R1_8 := Lib.hid (blk_below R1_7.out hbb)
  have P1_8 := Lib.hid (P1_7.out.below hbb)
  have Q1_8 := Lib.hid (Q1_7.out.below hbb)
  have S1_8 := Lib.hid (S1_7.out.below hbb)
  have R2_8 := Lib.hid (blk_below R2_7.out hbb)
  have P2_8 := Lib.hid (P2_7.out.below hbb)
  have Q2_8 := Lib.hid (Q2_7.out.below hbb)
  have S2_8 := Lib.hid (S2_7.out.below hbb)
  have R3_8 := Lib.hid (blk_below R3_7.out hbb)
  have P3_8 := Lib.hid (P3_7.out.below hbb)
  have Q3_8 := Lib.hid (Q3_7.out.below hbb)
  have R4_8 := Lib.hid (blk_below R4_7.out hbb)
  have P4_8 := Lib.hid (P4_7.out.below hbb)
  have Q4_8 := Lib.hid (Q4_7.out.below hbb)
  have R5_8 := Lib.hid (blk_below R5_7.out hbb)
  have P5_8 := Lib.hid (P5_7.out.below hbb)
  have Q5_8 := Lib.hid (Q5_7.out.below hbb)
  have R6_8 := Lib.hid (blk_below R6_7.out hbb)
  have P6_8 := Lib.hid (P6_7.out.below hbb)
  have Q6_8 := Lib.hid (Q6_7.out.below hbb)
  have R7_8 := Lib.hid (blk_below R7.out hbb)
  have P7_8 := Lib.hid (P7.out.below hbb)
  have Q7_8 := Lib.hid (Q7.out.below hbb)
  have BB_8 := Lib.hid (BB_7.out.step hbb)
  clear N1_7 N2_7 X0_7 X1_7 G0_7 G1_7 F0_7 D0_7 R1_7 P1_7 Q1_7 S1_7 R2_7 P2_7 Q2_7 S2_7 R3_7 P3_7 Q3_7 R4_7 P4_7 Q4_7 R5_7 P5_7 Q5_7 R6_7 P6_7 Q6_7 R7 P7 Q7 BB_7
  have R8 := Lib.hid xc8
  have P8 := Lib.hid (rd.below hb')
  have Q8 := Lib.hid (rz.below hb')
  clear xc8 rd rz hb hb' hbb
  unfold tensor
  obtain ⟨u0, u1, u2, _⟩ := newTensor R1_8.out
  obtain ⟨y0, y1, y2, _⟩ := newTensor R2_8.out
  go_wp2_with fail
  generalize v8.alloc (Obj.cells #[.slice a8 l8 c8, .int .i64 (T.aExp gd ge gz ds k s), .slice b8 m8 k8] 33) = w11 at *
  generalize v8.heap.size = g8 at *
  clear u0 u1 u2 y0 y1 y2
  have SM := Lib.hid (refSameT_self a1 l1 c1 _ (T.gExp xd xe xz k s) b1 m1 k1 _ a2 l2 c2 b2 m2 k2 _ P1_8.out Q1_8.out P2_8.out Q2_8.out)
  unfold tensor at SM
  refine SM.out.mono ?_
  rintro e1 wa ⟨rfl, hba⟩
  clear SM
  have N1_9 := Lib.hid (blk_below N1_8.out hba)
  have N2_9 := Lib.hid (blk_below N2_8.out hba)
  have X0_9 := Lib.hid (X0_8.out.below hba)
  have X1_9 := Lib.hid (X1_8.out.below hba)
  have G0_9 := Lib.hid (G0_8.out.below hba)
  have G1_9 := Lib.hid (G1_8.out.below hba)
  have F0_9 := Lib.hid (F0_8.out.below hba)
  have D0_9 := Lib.hid (D0_8.out.below hba)
  have R1_9 := Lib.hid (blk_below R1_8.out hba)
  have P1_9 := Lib.hid (P1_8.out.below hba)
  have Q1_9 := Lib.hid (Q1_8.out.below hba)
  have S1_9 := Lib.hid (S1_8.out.below hba)
  have R2_9 := Lib.hid (blk_below R2_8.out hba)
  have P2_9 := Lib.hid (P2_8.out.below hba)
  have Q2_9 := Lib.hid (Q2_8.out.below hba)
  have S2_9 := Lib.hid (S2_8.out.below hba)
  have R3_9 := Lib.hid (blk_below R3_8.out hba)
  have P3_9 := Lib.hid (P3_8.out.below hba)
  have Q3_9 := Lib.hid (Q3_8.out.below hba)
  have R4_9 := Lib.hid (blk_below R4_8.out hba)
  have P4_9 := Lib.hid (P4_8.out.below hba)
  have Q4_9 := Lib.hid (Q4_8.out.below hba)
  have R5_9 := Lib.hid (blk_below R5_8.out hba)
  have P5_9 := Lib.hid (P5_8.out.below hba)
  have Q5_9 := Lib.hid (Q5_8.out.below hba)
  have R6_9 := Lib.hid (blk_below R6_8.out hba)
  have P6_9 := Lib.hid (P6_8.out.below hba)
  have Q6_9 := Lib.hid (Q6_8.out.below hba)
  have R7_9 := Lib.hid (blk_below R7_8.out hba)
  have P7_9 := Lib.hid (P7_8.out.below hba)
  have Q7_9 := Lib.hid (Q7_8.out.below hba)
  have R8_9 := Lib.hid (blk_below R8.out hba)
  have P8_9 := Lib.hid (P8.out.below hba)
  have Q8_9 := Lib.hid (Q8.out.below hba)
  have BB_9 := Lib.hid (BB_8.out.step hba)
  clear N1_8 N2_8 X0_8 X1_8 G0_8 G1_8 F0_8 D0_8 R1_8 P1_8 Q1_8 S1_8 R2_8 P2_8 Q2_8 S2_8 R3_8 P3_8 Q3_8 R4_8 P4_8 Q4_8 R5_8 P5_8 Q5_8 R6_8 P6_8 Q6_8 R7_8 P7_8 Q7_8 R8 P8 Q8 BB_8
  clear hba
  go_wp2_with fail
  refine (show Calls _ _ _ _ (Gives (.bool true) wa) from (decide_eq_true (show T.gTop xd xe xz k s = T.gTop xd xe xz k s from rfl)) ▸ refSame_any t1 o1 q1 _ t2 o2 q2 _ wa S1_9.out S2_9.out).mono ?_
  rintro e1 wb ⟨rfl, nq, rfl⟩
  have hbq := below_drewN wa nq
  have N1_10 := Lib.hid (blk_below N1_9.out hbq)
  have N2_10 := Lib.hid (blk_below N2_9.out hbq)
  have X0_10 := Lib.hid (X0_9.out.below hbq)
  have X1_10 := Lib.hid (X1_9.out.below hbq)
  have G0_10 := Lib.hid (G0_9.out.below hbq)
  have G1_10 := Lib.hid (G1_9.out.below hbq)
  have F0_10 := Lib.hid (F0_9.out.below hbq)
  have D0_10 := Lib.hid (D0_9.out.below hbq)
  have R1_10 := Lib.hid (blk_below R1_9.out hbq)
  have P1_10 := Lib.hid (P1_9.out.below hbq)
  have Q1_10 := Lib.hid (Q1_9.out.below hbq)
  have S1_10 := Lib.hid (S1_9.out.below hbq)
  have R2_10 := Lib.hid (blk_below R2_9.out hbq)
  have P2_10 := Lib.hid (P2_9.out.below hbq)
  have Q2_10 := Lib.hid (Q2_9.out.below hbq)
  have S2_10 := Lib.hid (S2_9.out.below hbq)
  have R3_10 := Lib.hid (blk_below R3_9.out hbq)
  have P3_10 := Lib.hid (P3_9.out.below hbq)
  have Q3_10 := Lib.hid (Q3_9.out.below hbq)
  have R4_10 := Lib.hid (blk_below R4_9.out hbq)
  have P4_10 := Lib.hid (P4_9.out.below hbq)
  have Q4_10 := Lib.hid (Q4_9.out.below hbq)
  have R5_10 := Lib.hid (blk_below R5_9.out hbq)
  have P5_10 := Lib.hid (P5_9.out.below hbq)
  have Q5_10 := Lib.hid (Q5_9.out.below hbq)
  have R6_10 := Lib.hid (blk_below R6_9.out hbq)
  have P6_10 := Lib.hid (P6_9.out.below hbq)
  have Q6_10 := Lib.hid (Q6_9.out.below hbq)
  have R7_10 := Lib.hid (blk_below R7_9.out hbq)
  have P7_10 := Lib.hid (P7_9.out.below hbq)
  have Q7_10 := Lib.hid (Q7_9.out.below hbq)
  have R8_10 := Lib.hid (blk_below R8_9.out hbq)
  have P8_10 := Lib.hid (P8_9.out.below hbq)
  have Q8_10 := Lib.hid (Q8_9.out.below hbq)
  have BB_10 := Lib.hid (BB_9.out.step hbq)
  clear N1_9 N2_9 X0_9 X1_9 G0_9 G1_9 F0_9 D0_9 R1_9 P1_9 Q1_9 S1_9 R2_9 P2_9 Q2_9 S2_9 R3_9 P3_9 Q3_9 R4_9 P4_9 Q4_9 R5_9 P5_9 Q5_9 R6_9 P6_9 Q6_9 R7_9 P7_9 Q7_9 R8_9 P8_9 Q8_9 BB_9
  clear hbq
  generalize wa.drewN nq = wb at *
  have he1 : (T.err xd xe xz k s == T.err xd xe xz k s) = true := by simp
  have he2 : (T.bErr gd ge gz fs ds == T.bErr gd ge gz fs ds) = true := by simp
  have he3 : (T.aErr gd ge gz ds k s == T.aErr gd ge gz ds k s) = true := by simp
  obtain ⟨u0, u1, u2, _⟩ := newTensor R3_10.out
  obtain ⟨y0, y1, y2, _⟩ := newTensor R4_10.out
  go_wp2_with fail
  have SM := Lib.hid (refSameAcc_self a3 l3 c3 _ (T.bExp gd ge gz fs ds) b3 m3 k3 _ a4 l4 c4 b4 m4 k4 _ P3_10.out Q3_10.out P4_10.out Q4_10.out)
  unfold tensor at SM
  refine SM.out.mono ?_
  rintro e1 wc3 ⟨rfl, hba⟩
  clear SM u0 u1 u2 y0 y1 y2
  have N1_11 := Lib.hid (blk_below N1_10.out hba)
  have N2_11 := Lib.hid (blk_below N2_10.out hba)
  have X0_11 := Lib.hid (X0_10.out.below hba)
  have X1_11 := Lib.hid (X1_10.out.below hba)
  have G0_11 := Lib.hid (G0_10.out.below hba)
  have G1_11 := Lib.hid (G1_10.out.below hba)
  have F0_11 := Lib.hid (F0_10.out.below hba)
  have D0_11 := Lib.hid (D0_10.out.below hba)
  have R1_11 := Lib.hid (blk_below R1_10.out hba)
  have P1_11 := Lib.hid (P1_10.out.below hba)
  have Q1_11 := Lib.hid (Q1_10.out.below hba)
  have S1_11 := Lib.hid (S1_10.out.below hba)
  have R2_11 := Lib.hid (blk_below R2_10.out hba)
  have P2_11 := Lib.hid (P2_10.out.below hba)
  have Q2_11 := Lib.hid (Q2_10.out.below hba)
  have S2_11 := Lib.hid (S2_10.out.below hba)
  have R3_11 := Lib.hid (blk_below R3_10.out hba)
  have P3_11 := Lib.hid (P3_10.out.below hba)
  have Q3_11 := Lib.hid (Q3_10.out.below hba)
  have R4_11 := Lib.hid (blk_below R4_10.out hba)
  have P4_11 := Lib.hid (P4_10.out.below hba)
  have Q4_11 := Lib.hid (Q4_10.out.below hba)
  have R5_11 := Lib.hid (blk_below R5_10.out hba)
  have P5_11 := Lib.hid (P5_10.out.below hba)
  have Q5_11 := Lib.hid (Q5_10.out.below hba)
  have R6_11 := Lib.hid (blk_below R6_10.out hba)
  have P6_11 := Lib.hid (P6_10.out.below hba)
  have Q6_11 := Lib.hid (Q6_10.out.below hba)
  have R7_11 := Lib.hid (blk_below R7_10.out hba)
  have P7_11 := Lib.hid (P7_10.out.below hba)
  have Q7_11 := Lib.hid (Q7_10.out.below hba)
  have R8_11 := Lib.hid (blk_below R8_10.out hba)
  have P8_11 := Lib.hid (P8_10.out.below hba)
  have Q8_11 := Lib.hid (Q8_10.out.below hba)
  have BB_11 := Lib.hid (BB_10.out.step hba)
  clear N1_10 N2_10 X0_10 X1_10 G0_10 G1_10 F0_10 D0_10 R1_10 P1_10 Q1_10 S1_10 R2_10 P2_10 Q2_10 S2_10 R3_10 P3_10 Q3_10 R4_10 P4_10 Q4_10 R5_10 P5_10 Q5_10 R6_10 P6_10 Q6_10 R7_10 P7_10 Q7_10 R8_10 P8_10 Q8_10 BB_10
  clear hba
  obtain ⟨u0, u1, u2, _⟩ := newTensor R5_11.out
  obtain ⟨y0, y1, y2, _⟩ := newTensor R6_11.out
  go_wp2_with fail
  have SM := Lib.hid (refSameAcc_self a5 l5 c5 _ (T.gLess xd xe xz k s) b5 m5 k5 _ a6 l6 c6 b6 m6 k6 _ P5_11.out Q5_11.out P6_11.out Q6_11.out)
  unfold tensor at SM
  refine SM.out.mono ?_
  rintro e1 wc5 ⟨rfl, hba⟩
  clear SM u0 u1 u2 y0 y1 y2
  have N1_12 := Lib.hid (blk_below N1_11.out hba)
  have N2_12 := Lib.hid (blk_below N2_11.out hba)
  have X0_12 := Lib.hid (X0_11.out.below hba)
  have X1_12 := Lib.hid (X1_11.out.below hba)
  have G0_12 := Lib.hid (G0_11.out.below hba)
  have G1_12 := Lib.hid (G1_11.out.below hba)
  have F0_12 := Lib.hid (F0_11.out.below hba)
  have D0_12 := Lib.hid (D0_11.out.below hba)
  have R1_12 := Lib.hid (blk_below R1_11.out hba)
  have P1_12 := Lib.hid (P1_11.out.below hba)
  have Q1_12 := Lib.hid (Q1_11.out.below hba)
  have S1_12 := Lib.hid (S1_11.out.below hba)
  have R2_12 := Lib.hid (blk_below R2_11.out hba)
  have P2_12 := Lib.hid (P2_11.out.below hba)
  have Q2_12 := Lib.hid (Q2_11.out.below hba)
  have S2_12 := Lib.hid (S2_11.out.below hba)
  have R3_12 := Lib.hid (blk_below R3_11.out hba)
  have P3_12 := Lib.hid (P3_11.out.below hba)
  have Q3_12 := Lib.hid (Q3_11.out.below hba)
  have R4_12 := Lib.hid (blk_below R4_11.out hba)
  have P4_12 := Lib.hid (P4_11.out.below hba)
  have Q4_12 := Lib.hid (Q4_11.out.below hba)
  have R5_12 := Lib.hid (blk_below R5_11.out hba)
  have P5_12 := Lib.hid (P5_11.out.below hba)
  have Q5_12 := Lib.hid (Q5_11.out.below hba)
  have R6_12 := Lib.hid (blk_below R6_11.out hba)
  have P6_12 := Lib.hid (P6_11.out.below hba)
  have Q6_12 := Lib.hid (Q6_11.out.below hba)
  have R7_12 := Lib.hid (blk_below R7_11.out hba)
  have P7_12 := Lib.hid (P7_11.out.below hba)
  have Q7_12 := Lib.hid (Q7_11.out.below hba)
  have R8_12 := Lib.hid (blk_below R8_11.out hba)
  have P8_12 := Lib.hid (P8_11.out.below hba)
  have Q8_12 := Lib.hid (Q8_11.out.below hba)
  have BB_12 := Lib.hid (BB_11.out.step hba)
  clear N1_11 N2_11 X0_11 X1_11 G0_11 G1_11 F0_11 D0_11 R1_11 P1_11 Q1_11 S1_11 R2_11 P2_11 Q2_11 S2_11 R3_11 P3_11 Q3_11 R4_11 P4_11 Q4_11 R5_11 P5_11 Q5_11 R6_11 P6_11 Q6_11 R7_11 P7_11 Q7_11 R8_11 P8_11 Q8_11 BB_11
  clear hba
  obtain ⟨u0, u1, u2, _⟩ := newTensor R7_12.out
  obtain ⟨y0, y1, y2, _⟩ := newTensor R8_12.out
  go_wp2_with fail
  have SM := Lib.hid (refSameAcc_self a7 l7 c7 _ (T.aExp gd ge gz ds k s) b7 m7 k7 _ a8 l8 c8 b8 m8 k8 _ P7_12.out Q7_12.out P8_12.out Q8_12.out)
  unfold tensor at SM
  refine SM.out.mono ?_
  rintro e1 wc7 ⟨rfl, hba⟩
  clear SM u0 u1 u2 y0 y1 y2
  have N1_13 := Lib.hid (blk_below N1_12.out hba)
  have N2_13 := Lib.hid (blk_below N2_12.out hba)
  have X0_13 := Lib.hid (X0_12.out.below hba)
  have X1_13 := Lib.hid (X1_12.out.below hba)
  have G0_13 := Lib.hid (G0_12.out.below hba)
  have G1_13 := Lib.hid (G1_12.out.below hba)
  have F0_13 := Lib.hid (F0_12.out.below hba)
  have D0_13 := Lib.hid (D0_12.out.below hba)
  have R1_13 := Lib.hid (blk_below R1_12.out hba)
  have P1_13 := Lib.hid (P1_12.out.below hba)
  have Q1_13 := Lib.hid (Q1_12.out.below hba)
  have S1_13 := Lib.hid (S1_12.out.below hba)
  have R2_13 := Lib.hid (blk_below R2_12.out hba)
  have P2_13 := Lib.hid (P2_12.out.below hba)
  have Q2_13 := Lib.hid (Q2_12.out.below hba)
  have S2_13 := Lib.hid (S2_12.out.below hba)
  have R3_13 := Lib.hid (blk_below R3_12.out hba)
  have P3_13 := Lib.hid (P3_12.out.below hba)
  have Q3_13 := Lib.hid (Q3_12.out.below hba)
  have R4_13 := Lib.hid (blk_below R4_12.out hba)
  have P4_13 := Lib.hid (P4_12.out.below hba)
  have Q4_13 := Lib.hid (Q4_12.out.below hba)
  have R5_13 := Lib.hid (blk_below R5_12.out hba)
  have P5_13 := Lib.hid (P5_12.out.below hba)
  have Q5_13 := Lib.hid (Q5_12.out.below hba)
  have R6_13 := Lib.hid (blk_below R6_12.out hba)
  have P6_13 := Lib.hid (P6_12.out.below hba)
  have Q6_13 := Lib.hid (Q6_12.out.below hba)
  have R7_13 := Lib.hid (blk_below R7_12.out hba)
  have P7_13 := Lib.hid (P7_12.out.below hba)
  have Q7_13 := Lib.hid (Q7_12.out.below hba)
  have R8_13 := Lib.hid (blk_below R8_12.out hba)
  have P8_13 := Lib.hid (P8_12.out.below hba)
  have Q8_13 := Lib.hid (Q8_12.out.below hba)
  have BB_13 := Lib.hid (BB_12.out.step hba)
  clear N1_12 N2_12 X0_12 X1_12 G0_12 G1_12 F0_12 D0_12 R1_12 P1_12 Q1_12 S1_12 R2_12 P2_12 Q2_12 S2_12 R3_12 P3_12 Q3_12 R4_12 P4_12 Q4_12 R5_12 P5_12 Q5_12 R6_12 P6_12 Q6_12 R7_12 P7_12 Q7_12 R8_12 P8_12 Q8_12 BB_12
  clear hba
  go_wp2_with fail
  refine (awakeP_any _).mono ?_
  rintro e1 wz ⟨rfl, hbz⟩
  go_wp2
  go_ret
  exact ⟨rfl, BB_13.out.step hbz⟩
end Go.Proofs.Ytaijiihlkcbdhaa
