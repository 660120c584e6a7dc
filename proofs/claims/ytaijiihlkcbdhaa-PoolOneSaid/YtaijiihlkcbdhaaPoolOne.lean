/-
  The walk of the law PoolOne.
-/
import Derived.Test.YtaijiihlkcbdhaaPoolTools
import Derived.Test.YtaijiihlkcbdhaaPoolGen
import Derived.Test.YtaijiihlkcbdhaaPoolOnePlain
namespace Go.Proofs.Ytaijiihlkcbdhaa
open Go.RowKit
set_option linter.unusedVariables false
attribute [local go_sem ↓] Go.wp_at_zero Go.wp_at_succ
set_option maxRecDepth 100000 in
set_option maxHeartbeats 4000000 in
theorem poolOne_any (a : Option Addr) (l c : Nat) (d : List Int) (e : Int) (b : Option Addr) (m k : Nat) (z : List Int) (s : Int) (w : World) (h0 : RowAt .i64 w a l d) (h1 : RowAt .i8 w b m z) (hm : m ≤ 1000000000000000) :
    Calls Try.prog 3 #[tensor a l c e b m k, .int .i64 s] w (GivesV (.bool true) w) := by
  have hml := h1.len_eq
  have B1 := below_alloc w (Obj.cells #[.slice a l c, .int .i64 e, .slice b m k] 25)
  have B2 := below_alloc (w.alloc (Obj.cells #[.slice a l c, .int .i64 e, .slice b m k] 25)) (Obj.cells #[.slice a l c, .int .i64 e, .slice b m k] 25)
  have N1 := blk_below (tensor_cells w a l c e b m k 25) B2
  have N2 := newTensor (tensor_cells (w.alloc (Obj.cells #[.slice a l c, .int .i64 e, .slice b m k] 25)) a l c e b m k 25)
  rw [World.size_alloc] at N2
  have TT : T.Tens ((w.alloc (Obj.cells #[.slice a l c, .int .i64 e, .slice b m k] 25)).alloc (Obj.cells #[.slice a l c, .int .i64 e, .slice b m k] 25)) (w.heap.size + 1) 1 [m] := by
    refine ⟨rfl, fun i hi => ?_⟩
    obtain rfl : i = 0 := by omega
    exact ⟨a, l, c, e, b, k, hm, N2.1, N2.2.1, N2.2.2.1⟩
  have LT := Lib.hid (light_any (w.heap.size + 1) 1 (by omega) [m] _ TT)
  clear TT
  have HN := Lib.hid N1
  have BB := Lib.hid (B1.step B2)
  have H0 := Lib.hid (h0.below (B1.step B2))
  have H1 := Lib.hid (h1.below (B1.step B2))
  clear N1 N2 B1 B2 h0 h1
  have HS : [m].sum = m := by simp
  rw [HS] at LT
  obtain ⟨B, hB⟩ : ∃ B, decide (m ≤ 2000) = B := ⟨_, rfl⟩
  rw [hB] at LT
  have HB := Lib.hid hB
  clear hB HS
  unfold tensor
  go_enter Try.func3, Try.ntmps3
  go_wp2_with fail
  generalize hw2 : (w.alloc (Obj.cells #[.slice a l c, .int .i64 e, .slice b m k] 25)).alloc (Obj.cells #[.slice a l c, .int .i64 e, .slice b m k] 25) = w2 at *
  refine LT.out.mono ?_
  rintro e1 w3 ⟨rfl, hb3⟩
  have N3 := Lib.hid (blk_below HN.out hb3)
  have B3 := Lib.hid (BB.out.step hb3)
  have H03 := Lib.hid (H0.out.below hb3)
  have H13 := Lib.hid (H1.out.below hb3)
  obtain ⟨x0, x1, x2, _⟩ := newTensor N3.out
  clear hw2 HN BB H0 H1 hb3 LT
  cases B
  · go_wp2_with fail
    refine (awakeP_any _).mono ?_
    rintro e1 w4 ⟨rfl, hb4⟩
    go_wp2
    go_ret
    exact ⟨rfl, B3.out.step hb4⟩
  · have hm2 : m ≤ 2000 := of_decide_eq_true HB.out
    have M1 := Lib.hid (max_gen a l c d e b m k z 1 1 w3 H03.out H13.out)
    unfold tensor at M1
    go_wp2_with fail
    refine M1.out.mono ?_
    rintro r1 w4 ⟨ta, tl, tc, tb, tm, tk, fa, fl, fc, rfl, td, tz, tf, hb4⟩
    clear M1 x0 x1 x2
    have N4 := Lib.hid (blk_below N3.out hb4)
    have B4 := Lib.hid (B3.out.step hb4)
    have H04 := Lib.hid (H03.out.below hb4)
    have H14 := Lib.hid (H13.out.below hb4)
    have TD := Lib.hid td
    have TZ := Lib.hid tz
    have TF := Lib.hid tf
    clear N3 B3 H03 H13 hb4 td tz tf
    have x4 := tensor_cells w4 ta tl tc (T.gExp d e z 1 1) tb tm tk 25
    have b4 := below_alloc w4 (Obj.cells #[.slice ta tl tc, .int .i64 (T.gExp d e z 1 1), .slice tb tm tk] 25)
    have X5 := Lib.hid x4
    have N5 := Lib.hid (blk_below N4.out b4)
    have B5 := Lib.hid (B4.out.step b4)
    have H05 := Lib.hid (H04.out.below b4)
    have H15 := Lib.hid (H14.out.below b4)
    have TD5 := Lib.hid (TD.out.below b4)
    have TZ5 := Lib.hid (TZ.out.below b4)
    have TF5 := Lib.hid (TF.out.below b4)
    clear N4 B4 H04 H14 TD TZ TF x4 b4
    obtain ⟨x0, x1, x2, _⟩ := newTensor N5.out
    unfold tensor
    go_wp2_with fail
    generalize w4.alloc (Obj.cells #[.slice ta tl tc, .int .i64 (T.gExp d e z 1 1), .slice tb tm tk] 25) = w5 at *
    generalize w4.heap.size = gt at *
    have M2 := avg_gen a l c d e b m k z 1 1 w5 H05.out H15.out
    unfold tensor at M2
    refine M2.mono ?_
    rintro r2 w6 ⟨aa, al, ac, ab, am, ak, rfl, ad, az, hb6⟩
    have x6 := tensor_cells w6 aa al ac (T.gLess d e z 1 1) ab am ak 33
    have b6' := below_alloc w6 (Obj.cells #[.slice aa al ac, .int .i64 (T.gLess d e z 1 1), .slice ab am ak] 33)
    have b6 := hb6.step b6'
    clear M2 x0 x1 x2
    have X7 := Lib.hid (blk_below X5.out b6)
    have Y7 := Lib.hid x6
    have N7 := Lib.hid (blk_below N5.out b6)
    have B7 := Lib.hid (B5.out.step b6)
    have H07 := Lib.hid (H05.out.below b6)
    have H17 := Lib.hid (H15.out.below b6)
    have TD7 := Lib.hid (TD5.out.below b6)
    have TZ7 := Lib.hid (TZ5.out.below b6)
    have TF7 := Lib.hid (TF5.out.below b6)
    have AZ7 := Lib.hid (az.below b6')
    clear N5 B5 H05 H15 TD5 TZ5 TF5 X5 x6 b6 b6' hb6 ad az
    obtain ⟨x0, x1, x2, _⟩ := newTensor N7.out
    unfold tensor
    go_wp2_with fail
    generalize w6.alloc (Obj.cells #[.slice aa al ac, .int .i64 (T.gLess d e z 1 1), .slice ab am ak] 33) = w7 at *
    generalize w6.heap.size = ga at *
    have M3 := max_gen a l c d e b m k z 1 s w7 H07.out H17.out
    unfold tensor at M3
    refine M3.mono ?_
    rintro r3 w8 ⟨ua, ul, uc, ub, um, uk, la, ll, lc, rfl, ud, uz, uf, hb8⟩
    have x8 := tensor_cells w8 ua ul uc (T.gExp d e z 1 s) ub um uk 25
    have b8' := below_alloc w8 (Obj.cells #[.slice ua ul uc, .int .i64 (T.gExp d e z 1 s), .slice ub um uk] 25)
    have b8 := hb8.step b8'
    clear M3 x0 x1 x2
    have X9 := Lib.hid (blk_below X7.out b8)
    have Y9 := Lib.hid (blk_below Y7.out b8)
    have Z9 := Lib.hid x8
    have N9 := Lib.hid (blk_below N7.out b8)
    have B9 := Lib.hid (B7.out.step b8)
    have H09 := Lib.hid (H07.out.below b8)
    have H19 := Lib.hid (H17.out.below b8)
    have TD9 := Lib.hid (TD7.out.below b8)
    have TZ9 := Lib.hid (TZ7.out.below b8)
    have TF9 := Lib.hid (TF7.out.below b8)
    have AZ9 := Lib.hid (AZ7.out.below b8)
    have UZ9 := Lib.hid (uz.below b8')
    have UF9 := Lib.hid (uf.below b8')
    clear N7 B7 H07 H17 TD7 TZ7 TF7 X7 Y7 AZ7 x8 b8 b8' hb8 ud uz uf
    unfold tensor
    generalize hE1 : T.err d e z 1 1 = E1 at *
    have HE1 := Lib.hid hE1
    obtain ⟨x0, x1, x2, _⟩ := newTensor N9.out
    obtain ⟨t0, t1, t2, _⟩ := newTensor X9.out
    obtain ⟨a0, a1, a2, _⟩ := newTensor Y9.out
    obtain ⟨u0, u1, u2, _⟩ := newTensor Z9.out
    have hE3 : E1 = 0 ∨ E1 = 1 ∨ E1 = 2 := by
      rw [← hE1]
      unfold T.err
      split
      · exact Or.inr (Or.inl rfl)
      · split
        · exact Or.inl rfl
        · exact Or.inr (Or.inr rfl)
    clear hE1
    rcases hE3 with rfl | rfl | rfl
    · have hz := HE1.out
      obtain ⟨ht, ho⟩ := T.err_zero hz
      have g1 : T.gDims d e z 1 1 = d := by unfold T.gDims; rw [if_pos hz]; exact T.outDims_one ht ho
      have g2 : T.gMax d e z 1 1 = z := by unfold T.gMax; rw [if_pos hz]; exact T.maxOf_one ht ho
      have g3 : T.gTop d e z 1 1 = (List.range z.length).map (fun j : Nat => (j : Int)) := by unfold T.gTop; rw [if_pos hz]; exact T.topOf_one ht ho
      have g4 : T.gSum d e z 1 1 = z := by unfold T.gSum; rw [if_pos hz]; exact T.sumOf_one ht ho
      have g5 : T.gExp d e z 1 1 = e := by unfold T.gExp; rw [if_pos hz]
      have g6 : T.gLess d e z 1 1 = e := by unfold T.gLess; rw [if_pos hz]; show e - 1 / 2 * 2 = e; omega
      have T1 := TD9.out
      have T2 := TZ9.out
      have T3 := TF9.out
      have T4 := AZ9.out
      rw [g1] at T1
      rw [g2] at T2
      rw [g3] at T3
      rw [g4] at T4
      rw [g5] at t1
      rw [g6] at a1
      rw [g5, g6]
      have y9 := Y9.out
      rw [g6] at y9
      have V9 := Lib.hid y9
      clear TD9 TZ9 TF9 AZ9 g1 g2 g3 g4 g5 g6 hz y9 Y9
      have HT := Lib.hid ht
      have HO := Lib.hid ho
      have hw8 : ∀ x ∈ z, (Lit.int .i8 x).wf = true := H19.out.wf
      have l1 := T3.len_eq
      have l2 := T4.len_eq
      simp at l1
      obtain rfl : fl = m := by omega
      obtain rfl : am = fl := by omega
      have SM := Lib.hid (refSameT_self ta tl tc d e tb tm tk z a l c b am k _ T1 T2 H09.out H19.out)
      unfold tensor at SM
      have F3 := Lib.hid T3
      have F4 := Lib.hid T4
      have HW := Lib.hid hw8
      have hb1 : ((am : Int) != (am : Int)) = false := by simp
      have he1 : (e != e) = false := by simp
      have hs1 : am ≤ 2000 := hm2
      clear ht ho hw8 T1 T2 T3 T4 l1 l2
      go_wp2_with fail
      generalize w8.alloc (Obj.cells #[.slice ua ul uc, .int .i64 (T.gExp d e z 1 s), .slice ub um uk] 25) = w9 at *
      generalize w8.heap.size = gu at *
      refine SM.out.mono ?_
      rintro e1 wa ⟨rfl, hba⟩
      have Y10 := Lib.hid (blk_below V9.out hba)
      have Z10 := Lib.hid (blk_below Z9.out hba)
      have N10 := Lib.hid (blk_below N9.out hba)
      have B10 := Lib.hid (B9.out.step hba)
      have H1a := Lib.hid (H19.out.below hba)
      have F3a := Lib.hid (F3.out.below hba)
      have F4a := Lib.hid (F4.out.below hba)
      have UZa := Lib.hid (UZ9.out.below hba)
      have UFa := Lib.hid (UF9.out.below hba)
      clear x0 x1 x2 t0 t1 t2 a0 a1 a2 u0 u1 u2 X9 V9 Z9 N9 B9 H09 H19 F3 F4 UZ9 UF9 SM hba
      obtain ⟨x0, x1, x2, _⟩ := newTensor N10.out
      obtain ⟨a0, a1, a2, _⟩ := newTensor (Y10.out)
      go_wp2_with fail
      obtain ⟨wo, rfl⟩ : ∃ wo : World, wo = wa := ⟨_, rfl⟩
      clear x0 x1 x2 a0 a1 a2
      go_loopw [81] (fun i wr => ∃ j q : Nat, j ≤ am ∧ i = .int .i64 j ∧ wr = wo.drewN q) (fun i _ => am - (intOf i).toNat)
      case atStart => exact ⟨0, 0, Nat.zero_le _, rfl, rfl⟩
      case round =>
        obtain ⟨j, q, hk, rfl, rfl⟩ := hrel
        by_cases hlt : j < am
        · obtain ⟨x0, x1, x2, _⟩ := newTensor N10.out
          obtain ⟨a0, a1, a2, _⟩ := newTensor Y10.out
          obtain ⟨p0, o0, rfl, e0⟩ := H1a.out.cells (by omega)
          obtain ⟨p1, o1, rfl, e1⟩ := F3a.out.cells (by omega)
          obtain ⟨p2, o2, rfl, e2⟩ := F4a.out.cells (by omega)
          have f0 := e0 j hlt
          have f1 := e1 j hlt
          have f2 := e2 j hlt
          rw [T.getD_map_range _ (by omega)] at f1
          have hv := getD8 HW.out j
          clear e0 e1 e2
          generalize z.getD j 0 = x at *
          have c1 : ((j : Int) != (j : Int)) = false := by simp
          have c2 : (x != x) = false := by simp
          have c3 : IntKind.i32.wrap x = x := IntWalk.i32_in _ (by omega)
          go_wp2_with fail
          go_quiet (fail)
          go_wp2_with fail
          go_roundw
          case rel => exact ⟨j + 1, q + nq, by omega, by go_num, rfl⟩
          case measure => simp [intOf]; omega
        · generalize hE2 : T.err d e z 1 s = E2 at *
          have HE2 := Lib.hid hE2
          have hE4 : E2 = 0 ∨ E2 = 2 := by
            rw [← hE2]
            unfold T.err
            rw [if_neg (by simpa using HT.out)]
            split
            · exact Or.inl rfl
            · exact Or.inr rfl
          clear hE2
          obtain ⟨x0, x1, x2, _⟩ := newTensor N10.out
          obtain ⟨u0, u1, u2, _⟩ := newTensor Z10.out
          rcases hE4 with rfl | rfl
          · obtain ⟨ht, ho⟩ := T.err_zero HE2.out
            have g2 : T.gMax d e z 1 s = T.maxOf d z 1 s := by unfold T.gMax; rw [if_pos HE2.out]
            have g3 : T.gTop d e z 1 s = T.topOf d z 1 s := by unfold T.gTop; rw [if_pos HE2.out]
            have T1 := UZa.out
            have T2 := UFa.out
            rw [g2] at T1
            rw [g3] at T2
            have l1 := T1.len_eq
            have l2 := T2.len_eq
            rw [T.len_tops.2.1] at l1
            rw [T.len_tops.1] at l2
            have ll1 := T1.len_le
            obtain rfl : ll = um := by omega
            have IN := Lib.hid (fun j (hj : j < ll) => T.topOf_in ht ho (j := j) (l1.symm ▸ hj))
            have V1 := Lib.hid T1
            have V2 := Lib.hid T2
            have hb2 : ((ll : Int) != (ll : Int)) = false := by simp
            clear UZa UFa T1 T2 g2 g3 l1 l2 ht ho
            go_wp2_with fail
            clear x0 x1 x2 u0 u1 u2
            obtain ⟨wq, hwq⟩ : ∃ wq : World, wq = wo.drewN q := ⟨_, rfl⟩
            have N12 := Lib.hid (blk_below N10.out (hwq ▸ below_drewN wo q))
            have Z12 := Lib.hid (blk_below Z10.out (hwq ▸ below_drewN wo q))
            have H12 := Lib.hid (H1a.out.below (hwq ▸ below_drewN wo q))
            have W1 := Lib.hid (V1.out.below (hwq ▸ below_drewN wo q))
            have W2 := Lib.hid (V2.out.below (hwq ▸ below_drewN wo q))
            have B12 := Lib.hid (B10.out.step (hwq ▸ below_drewN wo q))
            rw [← hwq]
            clear hwq N10 Z10 Y10 H1a V1 V2 B10 F3a F4a
            go_loopw [122] (fun i wr => ∃ j q : Nat, j ≤ ll ∧ i = .int .i64 j ∧ wr = wq.drewN q) (fun i _ => ll - (intOf i).toNat)
            case atStart => exact ⟨0, 0, Nat.zero_le _, rfl, rfl⟩
            case round =>
              obtain ⟨j2, q2, hk2, rfl, rfl⟩ := hrel
              by_cases hlt2 : j2 < ll
              · obtain ⟨i1, i2, i3⟩ := IN.out j2 hlt2
                obtain ⟨x0, x1, x2, _⟩ := newTensor N12.out
                obtain ⟨u0, u1, u2, _⟩ := newTensor Z12.out
                obtain ⟨p0, o0, rfl, e0⟩ := H12.out.cells (by omega)
                obtain ⟨p1, o1, rfl, e1⟩ := W1.out.cells (by omega)
                obtain ⟨p2, o2, rfl, e2⟩ := W2.out.cells (by omega)
                have f1 := e1 j2 hlt2
                have f2 := e2 j2 hlt2
                rw [i3] at f1
                generalize (T.topOf d z 1 s).getD j2 0 = K at *
                obtain ⟨kk, rfl⟩ : ∃ kk : Nat, K = kk := ⟨K.toNat, by omega⟩
                rw [Int.toNat_natCast] at f1
                have f0 := e0 kk (by omega)
                clear e0 e1 e2 i3
                generalize z.getD kk 0 = x at *
                have c1 : decide ((kk : Int) < 0) = false := decide_eq_false (by omega)
                have c2 : (x != x) = false := by simp
                have c3 : decide ((am : Int) ≤ kk) = false := decide_eq_false (by omega)
                have c4 : kk < am := by omega
                go_wp2_with fail
                go_quiet (fail)
                go_wp2_with fail
                go_roundw
                case rel => exact ⟨j2 + 1, q2 + nq, by omega, by go_num, rfl⟩
                case measure => simp [intOf]; omega
              · go_wp2_with fail
                refine (awakeP_any _).mono ?_
                rintro e1 w4 ⟨rfl, hb4⟩
                go_wp2
                go_ret
                exact ⟨rfl, B12.out.step ((below_drewN _ _).step hb4)⟩
          · go_wp2_with fail
            refine (awakeP_any _).mono ?_
            rintro e1 w4 ⟨rfl, hb4⟩
            go_wp2
            go_ret
            exact ⟨rfl, B10.out.step ((below_drewN _ _).step hb4)⟩
    all_goals
      go_wp2_with fail
      refine (awakeP_any _).mono ?_
      rintro e1 w4 ⟨rfl, hb4⟩
      go_wp2
      go_ret
      exact ⟨rfl, B9.out.step hb4⟩
end Go.Proofs.Ytaijiihlkcbdhaa
