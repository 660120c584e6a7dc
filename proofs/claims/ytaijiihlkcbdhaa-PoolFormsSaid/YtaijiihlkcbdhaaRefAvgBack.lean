/-
  The walk of the reference's AvgBack.
-/
import Derived.Test.YtaijiihlkcbdhaaRefAvg
namespace Go.Proofs.Ytaijiihlkcbdhaa
open Go.RowKit
set_option linter.unusedVariables false
attribute [local go_sem ↓] Go.wp_at_zero Go.wp_at_succ
set_option maxHeartbeats 4000000 in
theorem refAvgBack_arg (a : Option Addr) (l c : Nat) (d : List Int) (e : Int) (b : Option Addr) (m k0 : Nat) (z : List Int) (da : Option Addr) (dl dc : Nat) (ds : List Int) (k s : Int) (w : World) (h0 : RowAt .i64 w a l d) (h1 : RowAt .i8 w b m z) (h3 : RowAt .i64 w da dl ds)
    (hbad : ¬ T.may d e z ∨ Sh.size ds = 0) :
    Calls Try.prog 22 #[tensor a l c e b m k0, .slice da dl dc, .int .i64 k, .int .i64 s] w (GivesA [] 0 [] 1 w) := by
  have M := Lib.hid (fun g w hg h0 h1 => refMayOne a l c d e b m k0 z g w hg h0 h1)
  have S := Lib.hid (fun w h => refMay_still da dl dc ds w h)
  obtain ⟨q1, q2, q3, q4⟩ := box3 w (Obj.cells #[.slice a l c, .int .i64 e, .slice b m k0] 25) (Obj.cells #[.slice none 0 0, .int .i64 0, .slice none 0 0] 33) (Obj.cells #[.slice a l c, .int .i64 e, .slice b m k0] 25)
  have Q2 := Lib.hid q2
  have Q3 := Lib.hid q3
  have Q4 := Lib.hid q4
  have H0 := Lib.hid (h0.below q4)
  have H1 := Lib.hid (h1.below q4)
  have H3 := Lib.hid (h3.below q4)
  clear h0 h1 h3 q1 q2 q3 q4
  have HBad := Lib.hid hbad
  clear hbad
  obtain ⟨N, hN⟩ : ∃ N, decide (0 < Sh.size ds) = N := ⟨_, rfl⟩
  obtain ⟨B, hB⟩ : ∃ B, decide (T.may d e z) = B := ⟨_, rfl⟩
  rw [hB] at M
  rw [hN] at S
  have HB := Lib.hid hB
  have HN := Lib.hid hN
  clear hB hN
  unfold tensor
  go_enter Try.func22, Try.ntmps22
  go_wp2_with fail
  refine (M.out _ _ Q3.out H0.out H1.out).mono ?_
  rintro e' w4 ⟨rfl, hb⟩
  have HZ4 := Lib.hid (blk_below Q2.out hb)
  have B4 := Lib.hid (Q4.out.step hb)
  have H34 := Lib.hid (H3.out.below hb)
  clear hb M
  obtain ⟨r0, r1, r2, r3, r4, r5⟩ := newTensor HZ4.out
  cases B
  · go_wp2_with fail
    refine bodyPost_ret (v := .tuple #[.agg #[.slice none 0 0, .int .i64 0, .slice none 0 0], .int .i64 1]) ?_ rfl ⟨_, _, _, _, _, _, rfl, RowAt.zero _ _ _, RowAt.zero _ _ _, ((B4.out.setCell (by show w.heap.size ≤ w.heap.size + 1; omega) _).setCell (by show w.heap.size ≤ w.heap.size + 1; omega) _).setCell (by show w.heap.size ≤ w.heap.size + 1; omega) _⟩
    obtain ⟨t0, t1, t2, _, _, _⟩ := newTensor (store3 (a := .slice none 0 0) (b := .int .i64 0) (c := .slice none 0 0) HZ4.out)
    simp [results, Try.results22, go_sem, t0, t1, t2]
  · obtain rfl : N = false := by
      rw [← HN.out]
      refine decide_eq_false fun h => ?_
      rcases HBad.out with g | g
      · exact g (of_decide_eq_true HB.out)
      · omega
    go_wp2_with fail
    refine (S.out _ H34.out).mono ?_
    rintro e' w' ⟨rfl, rfl⟩
    go_wp2_with fail
    refine bodyPost_ret (v := .tuple #[.agg #[.slice none 0 0, .int .i64 0, .slice none 0 0], .int .i64 1]) ?_ rfl ⟨_, _, _, _, _, _, rfl, RowAt.zero _ _ _, RowAt.zero _ _ _, ((B4.out.setCell (by show w.heap.size ≤ w.heap.size + 1; omega) _).setCell (by show w.heap.size ≤ w.heap.size + 1; omega) _).setCell (by show w.heap.size ≤ w.heap.size + 1; omega) _⟩
    obtain ⟨t0, t1, t2, _, _, _⟩ := newTensor (store3 (a := .slice none 0 0) (b := .int .i64 0) (c := .slice none 0 0) HZ4.out)
    simp [results, Try.results22, go_sem, t0, t1, t2]
set_option maxHeartbeats 4000000 in
theorem refAvgBack_none (a : Option Addr) (l c : Nat) (d : List Int) (e : Int) (b : Option Addr) (m k0 : Nat) (z : List Int) (da : Option Addr) (dl dc : Nat) (ds : List Int) (k s : Int) (w : World) (h0 : RowAt .i64 w a l d) (h1 : RowAt .i8 w b m z) (h3 : RowAt .i64 w da dl ds)
    (ht : T.may d e z) (hs : 0 < Sh.size ds) (ho : ¬ overOk ds k s) :
    Calls Try.prog 22 #[tensor a l c e b m k0, .slice da dl dc, .int .i64 k, .int .i64 s] w (GivesA [] 0 [] 2 w) := by
  have M := Lib.hid (fun g w hg h0 h1 => (decide_eq_true ht ▸ refMayOne a l c d e b m k0 z g w hg h0 h1 : Calls _ _ _ _ (GivesV (.bool true) w)))
  have S := Lib.hid (fun w h => (decide_eq_true hs ▸ refMay_still da dl dc ds w h : Calls _ _ _ _ (fun e w' => e = .returned (.bool true) ∧ w' = w)))
  have PO := Lib.hid (show ∀ w, RowAt .i64 w da dl ds → Calls Try.prog 39 #[.slice da dl dc, .int .i64 k, .int .i64 s] w (fun r w' => ∃ v, r = .returned (.tuple #[v, .bool false]) ∧ Below w.heap.size w w') from fun w h => by
    by_cases hl : dl = 4
    · subst hl
      refine (refPooled_yes da dc ds k s w h).mono ?_
      rintro r w' ⟨g, rfl, _, hb⟩
      rw [decide_eq_false (fun hh => ho ⟨h.len_eq, hh.1, hh.2⟩)]
      exact ⟨_, rfl, hb⟩
    · refine (refPooled_no da dl dc ds k s w h hl).mono ?_
      rintro r w' ⟨rfl, rfl⟩
      exact ⟨_, rfl, Below.refl _ _⟩)
  clear ho
  obtain ⟨q1, q2, q3, q4⟩ := box3 w (Obj.cells #[.slice a l c, .int .i64 e, .slice b m k0] 25) (Obj.cells #[.slice none 0 0, .int .i64 0, .slice none 0 0] 33) (Obj.cells #[.slice a l c, .int .i64 e, .slice b m k0] 25)
  have Q1 := Lib.hid q1
  have Q2 := Lib.hid q2
  have Q3 := Lib.hid q3
  have Q4 := Lib.hid q4
  have H0 := Lib.hid (h0.below q4)
  have H1 := Lib.hid (h1.below q4)
  have H3 := Lib.hid (h3.below q4)
  clear h0 h1 h3 q1 q2 q3 q4 ht hs
  unfold tensor
  go_enter Try.func22, Try.ntmps22
  go_wp2_with fail
  refine (M.out _ _ Q3.out H0.out H1.out).mono ?_
  rintro e' w4 ⟨rfl, hb⟩
  have HX4 := Lib.hid (blk_below Q1.out hb)
  have HZ4 := Lib.hid (blk_below Q2.out hb)
  have B4 := Lib.hid (Q4.out.step hb)
  have H04 := Lib.hid (H0.out.below hb)
  have H14 := Lib.hid (H1.out.below hb)
  have H34 := Lib.hid (H3.out.below hb)
  clear hb M
  go_wp2_with fail
  refine (S.out _ H34.out).mono ?_
  rintro e' w' ⟨rfl, rfl⟩
  go_wp2_with fail
  refine (PO.out _ H34.out).mono ?_
  rintro e' w5 ⟨v, rfl, hb5⟩
  have HZ5 := Lib.hid (blk_below HZ4.out hb5)
  have B5 := Lib.hid (B4.out.step hb5)
  obtain ⟨r0, r1, r2, r3, r4, r5⟩ := newTensor HZ5.out
  clear hb5 PO
  go_wp2_with fail
  refine bodyPost_ret (v := .tuple #[.agg #[.slice none 0 0, .int .i64 0, .slice none 0 0], .int .i64 2]) ?_ rfl ⟨_, _, _, _, _, _, rfl, RowAt.zero _ _ _, RowAt.zero _ _ _, ((B5.out.setCell (by show w.heap.size ≤ w.heap.size + 1; omega) _).setCell (by show w.heap.size ≤ w.heap.size + 1; omega) _).setCell (by show w.heap.size ≤ w.heap.size + 1; omega) _⟩
  obtain ⟨t0, t1, t2, _, _, _⟩ := newTensor (store3 (a := .slice none 0 0) (b := .int .i64 0) (c := .slice none 0 0) HZ5.out)
  simp [results, Try.results22, go_sem, t0, t1, t2]
set_option maxHeartbeats 4000000 in
theorem refAvgBack_diff (a : Option Addr) (l c : Nat) (d : List Int) (e : Int) (b : Option Addr) (m k0 : Nat) (z : List Int) (da : Option Addr) (dl dc : Nat) (ds : List Int) (k s : Int) (w : World) (h0 : RowAt .i64 w a l d) (h1 : RowAt .i8 w b m z) (h3 : RowAt .i64 w da dl ds)
    (ht : T.may d e z) (hs : 0 < Sh.size ds) (ho : overOk ds k s) (hd : ¬ T.outDims ds k s = d) :
    Calls Try.prog 22 #[tensor a l c e b m k0, .slice da dl dc, .int .i64 k, .int .i64 s] w (GivesA [] 0 [] 2 w) := by
  have M := Lib.hid (fun g w hg h0 h1 => (decide_eq_true ht ▸ refMayOne a l c d e b m k0 z g w hg h0 h1 : Calls _ _ _ _ (GivesV (.bool true) w)))
  have S := Lib.hid (fun w h => (decide_eq_true hs ▸ refMay_still da dl dc ds w h : Calls _ _ _ _ (fun e w' => e = .returned (.bool true) ∧ w' = w)))
  obtain rfl : dl = 4 := by rw [← h3.len_eq]; exact ho.1
  have PO := Lib.hid (fun w h => (show Calls Try.prog 39 #[.slice da 4 dc, .int .i64 k, .int .i64 s] w (PooledOut (T.outDims ds k s) true w) from by
    obtain ⟨q1, q2, _⟩ := T.facts (T.may_zero hs) ho
    have h1 := ho.2.1
    have h2 := ho.2.2
    have := refPooled_yes da dc ds k s w h
    rw [decide_eq_true ⟨h1, h2⟩, q1, q2] at this
    exact this))
  obtain ⟨OD, hOD⟩ : ∃ OD, T.outDims ds k s = OD := ⟨_, rfl⟩
  rw [hOD] at PO hd
  have hdec := decide_eq_false hd
  have SM := Lib.hid (fun g w h0 h1 => (hdec ▸ refSame_any (some ⟨g, 0, none⟩) 4 4 OD a l c d w h0 h1 : Calls _ _ _ _ (Gives (.bool false) w)))
  clear ho hd hOD hdec
  obtain ⟨q1, q2, q3, q4⟩ := box3 w (Obj.cells #[.slice a l c, .int .i64 e, .slice b m k0] 25) (Obj.cells #[.slice none 0 0, .int .i64 0, .slice none 0 0] 33) (Obj.cells #[.slice a l c, .int .i64 e, .slice b m k0] 25)
  have Q1 := Lib.hid q1
  have Q2 := Lib.hid q2
  have Q3 := Lib.hid q3
  have Q4 := Lib.hid q4
  have H0 := Lib.hid (h0.below q4)
  have H1 := Lib.hid (h1.below q4)
  have H3 := Lib.hid (h3.below q4)
  clear h0 h1 h3 q1 q2 q3 q4 ht hs
  unfold tensor
  go_enter Try.func22, Try.ntmps22
  go_wp2_with fail
  refine (M.out _ _ Q3.out H0.out H1.out).mono ?_
  rintro e' w4 ⟨rfl, hb⟩
  have HX4 := Lib.hid (blk_below Q1.out hb)
  have HZ4 := Lib.hid (blk_below Q2.out hb)
  have B4 := Lib.hid (Q4.out.step hb)
  have H04 := Lib.hid (H0.out.below hb)
  have H14 := Lib.hid (H1.out.below hb)
  have H34 := Lib.hid (H3.out.below hb)
  clear hb M
  go_wp2_with fail
  refine (S.out _ H34.out).mono ?_
  rintro e' w' ⟨rfl, rfl⟩
  go_wp2_with fail
  refine (PO.out _ H34.out).mono ?_
  rintro e' w5 ⟨gd, rfl, hrow, hb5⟩
  have HX5 := Lib.hid (blk_below HX4.out hb5)
  have B5' := Lib.hid (B4.out.step hb5)
  have HZ5' := Lib.hid (blk_below HZ4.out hb5)
  have H05 := Lib.hid (H04.out.below hb5)
  have HOD5 := Lib.hid hrow
  obtain ⟨x0, x1, x2, _⟩ := newTensor HX5.out
  clear hb5 hrow PO
  go_wp2_with fail
  refine (SM.out _ _ HOD5.out H05.out).mono ?_
  rintro e' w6 ⟨rfl, nq, rfl⟩
  have HZ5 := Lib.hid (blk_below HZ5'.out (below_drewN w5 nq))
  have B5 := Lib.hid (B5'.out.step (below_drewN w5 nq))
  obtain ⟨r0, r1, r2, r3, r4, r5⟩ := newTensor HZ5.out
  clear x0 x1 x2
  go_wp2_with fail
  refine bodyPost_ret (v := .tuple #[.agg #[.slice none 0 0, .int .i64 0, .slice none 0 0], .int .i64 2]) ?_ rfl ⟨_, _, _, _, _, _, rfl, RowAt.zero _ _ _, RowAt.zero _ _ _, ((B5.out.setCell (by show w.heap.size ≤ w.heap.size + 1; omega) _).setCell (by show w.heap.size ≤ w.heap.size + 1; omega) _).setCell (by show w.heap.size ≤ w.heap.size + 1; omega) _⟩
  obtain ⟨t0, t1, t2, _, _, _⟩ := newTensor (store3 (a := .slice none 0 0) (b := .int .i64 0) (c := .slice none 0 0) HZ5.out)
  simp [results, Try.results22, go_sem, t0, t1, t2]
set_option maxRecDepth 100000 in
set_option maxHeartbeats 16000000 in
theorem refAvgBack_yes0 (a : Option Addr) (l c : Nat) (d : List Int) (e : Int) (b : Option Addr) (m k0 : Nat) (z : List Int) (da : Option Addr) (dl dc : Nat) (ds : List Int) (k s : Int) (w : World) (h0 : RowAt .i64 w a l d) (h1 : RowAt .i8 w b m z) (h3 : RowAt .i64 w da dl ds)
    (ht : T.may d e z) (hs : 0 < Sh.size ds) (ho : overOk ds k s) (hd : T.outDims ds k s = d) (n : Nat) (hn : Sh.size ds = n) (hm : T.count ds k s = m) :
    Calls Try.prog 22 #[tensor a l c e b m k0, .slice da dl dc, .int .i64 k, .int .i64 s] w (GivesA ds (e - k / 2 * 2) (T.puts n (T.backs z (ds.getD 2 0) (ds.getD 3 0) k s (T.rowsOf ds k s) (T.colsOf ds k s) m)) 0 w) := by
  have M := Lib.hid (fun g w hg h0 h1 => (decide_eq_true ht ▸ refMayOne a l c d e b m k0 z g w hg h0 h1 : Calls _ _ _ _ (GivesV (.bool true) w)))
  have S := Lib.hid (fun w h => (decide_eq_true hs ▸ refMay_still da dl dc ds w h : Calls _ _ _ _ (fun e w' => e = .returned (.bool true) ∧ w' = w)))
  obtain rfl : dl = 4 := by rw [← h3.len_eq]; exact ho.1
  have PO := Lib.hid (fun w h => (show Calls Try.prog 39 #[.slice da 4 dc, .int .i64 k, .int .i64 s] w (PooledOut (T.outDims ds k s) true w) from by
    obtain ⟨q1, q2, _⟩ := T.facts (T.may_zero hs) ho
    have h1 := ho.2.1
    have h2 := ho.2.2
    have := refPooled_yes da dc ds k s w h
    rw [decide_eq_true ⟨h1, h2⟩, q1, q2] at this
    exact this))
  obtain ⟨_, _, kb1, kb2, sb1, sb2, _, _⟩ := outW_fit (show 1 ≤ outW (ds.getD 2 0) k s 0 by have := ho.2.1; omega)
  obtain ⟨K, rfl⟩ : ∃ K : Nat, k = K := ⟨k.toNat, by omega⟩
  obtain ⟨pd, od, rfl, _⟩ := h3.cells (by omega)
  have hz := T.may_zero hs
  obtain ⟨q1, q2, q3, q4, q5, q6, q7, q8, q9, q10, q11, q12, q13⟩ := T.facts hz ho
  obtain ⟨s1, s2, s3, _, _⟩ := T.out_size hz ho
  rw [hd, hm] at s1
  rw [hm] at s2 s3
  rw [List.length_replicate, hn, Int.toNat_natCast] at q8 q9
  have my := Sh.may_of hs
  have hn8 : n ≤ 8192 := q9
  have hn0 : 0 < n := by omega
  have WIN := Lib.hid (fun j (hj : j < m) => T.rwindow hz ho (j := j) (hm ▸ hj))
  have HLr := Lib.hid (show (List.replicate (Sh.size ds).toNat (0 : Int)).length = n by rw [List.length_replicate, hn, Int.toNat_natCast])
  have RWin := Lib.hid (fun (y x : Int) w (hy : 0 ≤ y ∧ y < (T.rowsOf ds K s : Nat)) (hx : 0 ≤ x ∧ x < (T.colsOf ds K s : Nat)) => refWindow_yes (ds.getD 2 0) (ds.getD 3 0) y x s K (T.rowsOf ds K s) (T.colsOf ds K s) w q1 q2 hy.1 hy.2 hx.1 hx.2)
  have HOut := Lib.hid (show d = [ds.getD 0 0, ds.getD 1 0, ((T.rowsOf ds K s : Nat) : Int), ((T.colsOf ds K s : Nat) : Int)] from hd ▸ rfl)
  have HS := Lib.hid s1
  have hme := ht.2.2.1
  have HMe := Lib.hid hme
  have hex : -128 ≤ e - (K : Int) / 2 * 2 ∧ e - (K : Int) / 2 * 2 ≤ 128 := by omega
  have LS := Lib.hid (fun w => refLess_any (K : Int) w (by omega) (by omega))
  have AC := Lib.hid (fun ga cp w h => refAcc_yes (some ⟨ga, 0, none⟩) 4 cp ds (e - (K : Int) / 2 * 2) n w h hex hn hn0 hn8)
  have hdec := decide_eq_true (show d = d from rfl)
  have SM := Lib.hid (fun g w h0 h1 => (hdec ▸ refSame_any (some ⟨g, 0, none⟩) 4 4 d a l c d w h0 h1 : Calls _ _ _ _ (Gives (.bool true) w)))
  rw [hd] at PO
  have HHd := Lib.hid hd
  have hdll := Lib.hid h3.len_eq
  have hwf := Lib.hid h3.wf
  have hzw := Lib.hid h1.wf
  have HBks := Lib.hid (fun j => T.backs_succ z (ds.getD 2 0) (ds.getD 3 0) K s (T.rowsOf ds K s) (T.colsOf ds K s) j)
  have HBb := Lib.hid (fun j => T.backs_bound h1.wf (R := ds.getD 2 0) (C := ds.getD 3 0) (k := K) (s := s) (P := T.rowsOf ds K s) (Q := T.colsOf ds K s) (n := j))
  have HBl := Lib.hid (fun j => T.length_backs z (ds.getD 2 0) (ds.getD 3 0) K s (T.rowsOf ds K s) (T.colsOf ds K s) j)
  generalize hD1 : ds.getD 1 0 = D1 at *
  generalize hR : ds.getD 2 0 = R at *
  generalize hC : ds.getD 3 0 = C at *
  have HD1 := Lib.hid hD1
  have HR := Lib.hid hR
  have HC := Lib.hid hC
  generalize T.rowsOf ds K s = P at *
  generalize T.colsOf ds K s = Q at *
  clear ho hd hm hn hz hD1 hR hC q1 q2 q3 q4 q5 q6 q7 q8 q9 s1 my hdec hme hex
  obtain ⟨q1, q2, q3, q4⟩ := box3 w (Obj.cells #[.slice a l c, .int .i64 e, .slice b m k0] 25) (Obj.cells #[.slice none 0 0, .int .i64 0, .slice none 0 0] 33) (Obj.cells #[.slice a l c, .int .i64 e, .slice b m k0] 25)
  have Q1 := Lib.hid q1
  have Q2 := Lib.hid q2
  have Q3 := Lib.hid q3
  have Q4 := Lib.hid q4
  have H0 := Lib.hid (h0.below q4)
  have H1 := Lib.hid (h1.below q4)
  have H3 := Lib.hid (h3.below q4)
  clear h0 h1 h3 q1 q2 q3 q4 ht hs
  unfold tensor
  go_enter Try.func22, Try.ntmps22
  go_wp2_with fail
  refine (M.out _ _ Q3.out H0.out H1.out).mono ?_
  rintro e' w4 ⟨rfl, hb⟩
  have HX4 := Lib.hid (blk_below Q1.out hb)
  have HZ4 := Lib.hid (blk_below Q2.out hb)
  have B4 := Lib.hid (Q4.out.step hb)
  have H04 := Lib.hid (H0.out.below hb)
  have H14 := Lib.hid (H1.out.below hb)
  have H34 := Lib.hid (H3.out.below hb)
  clear hb M
  go_wp2_with fail
  refine (S.out _ H34.out).mono ?_
  rintro e' w' ⟨rfl, rfl⟩
  go_wp2_with fail
  refine (PO.out _ H34.out).mono ?_
  rintro e' w5 ⟨gd, rfl, hrow, hb5⟩
  have HX5' := Lib.hid (blk_below HX4.out hb5)
  have HOD5' := Lib.hid hrow
  have HR5' := Lib.hid (blk_below HZ4.out hb5)
  have B5' := Lib.hid (B4.out.step hb5)
  have H05 := Lib.hid (H04.out.below hb5)
  have H15 := Lib.hid (H14.out.below hb5)
  have H35 := Lib.hid (H34.out.below hb5)
  obtain ⟨x0, x1, x2, _⟩ := newTensor HX5'.out
  clear hb5 hrow PO
  go_wp2_with fail
  refine (SM.out _ _ HOD5'.out H05.out).mono ?_
  rintro e' w6' ⟨rfl, nq, rfl⟩
  obtain ⟨w', hw'⟩ : ∃ w' : World, w5.drewN nq = w' := ⟨_, rfl⟩
  have hbd := hw' ▸ below_drewN w5 nq
  have HX5 := Lib.hid (blk_below HX5'.out hbd)
  have HR5 := Lib.hid (blk_below HR5'.out hbd)
  have HOD5 := Lib.hid (HOD5'.out.below hbd)
  have HZ5 := Lib.hid (H15.out.below hbd)
  have H34' := Lib.hid (H35.out.below hbd)
  have B5 := Lib.hid (B5'.out.step hbd)
  have hlt4 : w.heap.size + 1 < w'.heap.size := lt_of_block HR5.out
  have KL0 := Lib.hid (show 0 ≤ (K : Int) / 2 * 2 ∧ (K : Int) / 2 * 2 ≤ 4 from by omega)
  clear x0 x1 x2 hbd HX5' HR5' HOD5' B5' HX4 HZ4 B4 H04 H14 H34 H05 H15 H35 SM H0 H1 H3 Q1 Q2 Q3 Q4 S
  rw [hw']
  clear hw'
  have hme := HMe.out
  generalize hKL : (K : Int) / 2 * 2 = KL at *
  generalize hEL : e - KL = EL at *
  have c1 : IntKind.i64.wrap (e - KL) = EL := by rw [hEL]; exact IntWalk.i64_in _ (by have := KL0.out; omega)
  obtain ⟨x0, x1, x2, _⟩ := newTensor HX5.out
  clear hKL hEL hme
  obtain ⟨i0, hi, hz0, hz1, hz2⟩ := info_parts infoInt
  go_upto_region 6 with fail
  go_cut [12, 13] (fun s12 s13 wx => AccFill ds 4 EL n w' s12 wx ∧ s13 = .int .i64 0)
  case first =>
    go_region_held3 (fun w'' => w''.cell? ⟨w.heap.size, 1, none⟩ = some (.int .i64 e))
      (first | exact cell_realloc (by assumption) (by show w.heap.size < _; omega) | exact cell_set3 (by assumption) (by show w.heap.size ≠ _; omega) | exact hbc.cell_of (by first | assumption | exact cell_alloc1 (by assumption) _) | exact hb1.cell_of (by first | assumption | exact cell_alloc1 (by assumption) _) | assumption | exact cell_alloc1 (by assumption) _ | exact cell_drew1 x1 | go_keep)
      (first
        | (go_at_call 42; ((refine (LS.out _).mono ?_); rintro el wl ⟨rfl, hwl⟩; rw [hwl]; clear hwl wl))
        | (go_at_call 41; ((refine (AC.out _ _ _ (by first | with_reducible exact hrow1 | with_reducible exact RowAt.alloc1 hrow1 _)).mono ?_); rintro ea wa ⟨gr, rfl, hoa, hbc⟩; (first | (have hz2 : w1.heap.size + 1 ≤ wa.heap.size := (by have := hbc.size; rw [World.size_alloc] at this; exact this)) | (have hz2 : w1.heap.size ≤ wa.heap.size := hbc.size)); (first | (have hy2 := blk_below hy1 hbc; obtain ⟨y0, y1, y2, y3, y4, y5⟩ := newTensor hy2) | (have hy2 := blk_below (heap_alloc_new w1 _) hbc; obtain ⟨y0, y1, y2, y3, y4, y5⟩ := newTensor hy2) | skip)))
        | (refine step_append_lies _ (by rfl) _ _ _ (by rfl) w'.heap.size 3 i0 _ 1 8 Try.underlying22 hi hz0 hz1 hz2 rfl (by omega) (.slice none 0 0) 0 [] (by rfl) (World.ownsRow_nil _ _ _ _) ⟨pd, od, none⟩ 4 dc (ds.map (Value.int .i64)) (by rfl) (by rw [List.length_map, hdll.out, Nat.mul_one]) (RowAt.news (by first | with_reducible exact RowAt.drew1 H34'.out | with_reducible exact RowAt.drew1 (RowAt.alloc1 H34'.out _))) (oneCells _ _) (by omega) (by unfold maxLen; omega) (by omega) (by first | exact Nat.le_refl _ | (show w'.heap.size ≤ (World.alloc _ _).heap.size; rw [World.size_alloc]; exact Nat.le_succ _)) _ rfl ?_; intro g1 cap1 w1 hown1 hgrow1 hat1 hlt1; have hb1 := grownNone hgrow1; have hrow1 : RowAt .i64 w1 (some ⟨g1, 0, none⟩) 4 ds := RowAt.owned (by have := hown1; rw [Nat.zero_add, List.nil_append] at this; exact this) hwf.out (by omega); (first | (have hz1 : w'.heap.size + 1 ≤ w1.heap.size := (by have : (World.alloc _ _).heap.size ≤ w1.heap.size := hb1.size; rw [World.size_alloc] at this; exact this)) | (have hz1 : w'.heap.size ≤ w1.heap.size := hb1.size)); (first | (have hy1 := blk_below (w := (World.alloc w' _).drew) (heap_alloc_new w' _) hb1) | skip)))
    all_goals
      go_wp2_with fail
      go_meet
      have hg1 := (hown1.lt g1 rfl).1
      have hgr := hoa.lt gr rfl
      simp only [Value.ownBlock] at hat1
      refine ⟨?_, rfl⟩
      first
        | (
            exact AccFill.fin (heap_alloc_new wa _) ((hrow1.below hbc).alloc1 _) (hoa.alloc _) (((below_drewN w' 1).step hb1).step hbc |>.step (below_alloc _ _)) (by omega) hg1 hlt1 (by omega) (by omega))
        | (
            have hgz := hoa.lt gr rfl
            rw [World.size_alloc] at hgz
            refine AccFill.fin (store3 hy2) (RowAt.set3 ((hrow1.alloc1 _).below hbc) (fun x hx => by cases hx; show g1 ≠ w1.heap.size; omega)) (owned_set3 (owned_base hoa (base' := w1.heap.size) (by rw [World.size_alloc]; omega)) (by omega)) ?_ (by omega) hg1 hlt1 (by omega) (by omega)
            exact (((((below_drewN w' 1).step hb1).step (below_alloc _ _)).step hbc).setCell (by show w'.heap.size ≤ w1.heap.size; omega) _ |>.setCell (by show w'.heap.size ≤ w1.heap.size; omega) _).setCell (by show w'.heap.size ≤ w1.heap.size; omega) _)
        | (
            have hg2 : g1 = w'.heap.size + 1 := by
              rcases hat1 with h | h
              · cases h
              · have h : g1 = (World.alloc w' _).heap.size := h
                rw [World.size_alloc] at h
                exact h
            refine AccFill.fin (store3 hy2) (RowAt.set3 (hrow1.below hbc) (fun x hx => by cases hx; show g1 ≠ w'.heap.size; omega)) (owned_set3 hoa (by omega)) ?_ (by omega) hg1 hlt1 (by omega) (by omega)
            exact (((((below_alloc w' _).draws 1).step hb1).step hbc).setCell (by show w'.heap.size ≤ w'.heap.size; omega) _ |>.setCell (by show w'.heap.size ≤ w'.heap.size; omega) _).setCell (by show w'.heap.size ≤ w'.heap.size; omega) _)
  case rest =>
    obtain ⟨⟨bo, bl, cl, bd, rfl, ho, hrl, hown, hb6, ga1, ga2, ga3, ga4, ga5, ga6⟩, rfl⟩ := hcut
    obtain ⟨w6, rfl⟩ : ∃ w6 : World, w6 = wc := ⟨_, rfl⟩
    have hbd5 := ga3
    have HO6 := Lib.hid ho
    have HOwn6 := Lib.hid (show w6.ownsRow w'.heap.size 21 1 (.slice (some ⟨bd, 0, none⟩) n n) n ((T.puts n (T.backs z R C K s P Q 0)).map (Value.int .i32)) from hown)
    have HB6 := Lib.hid hb6
    have HRl6 := Lib.hid hrl
    clear x0 x1 x2
    obtain ⟨x0, x1, x2, _⟩ := newTensor (blk_below HX5.out hb6)
    clear c1 ho hown hb6 hrl AC LS
    go_wp2_with fail
    clear x0 x1 x2
    go_loopw [65] (fun i wr => ∃ j : Nat, j ≤ m ∧ i = .int .i64 j ∧ wr.heap[bo]? = some (.cells #[.slice (some ⟨bl, 0, none⟩) 4 cl, .int .i64 EL, .slice (some ⟨bd, 0, none⟩) n n] 33 (0, 0)) ∧ RowAt .i64 wr (some ⟨bl, 0, none⟩) 4 ds ∧ wr.ownsRow w'.heap.size 21 1 (.slice (some ⟨bd, 0, none⟩) n n) n ((T.puts n (T.backs z R C K s P Q j)).map (Value.int .i32)) ∧ Below w'.heap.size w' wr) (fun i _ => m - (intOf i).toNat)
    case atStart => exact ⟨0, Nat.zero_le _, rfl, HO6.out, HRl6.out, HOwn6.out, HB6.out⟩
    case round =>
      obtain ⟨j, hj, rfl, hblk, hrl, hown, hbel⟩ := hrel
      have HBlk := Lib.hid hblk
      have HRl := Lib.hid hrl
      have HOwn := Lib.hid hown
      have HBel := Lib.hid hbel
      clear hblk hown hrl
      by_cases hlt : j < m
      · obtain ⟨pz, oz, rfl, ez⟩ := (HZ5.out.below hbel).cells (by omega)
        have fz := ez j hlt
        obtain ⟨v, hv⟩ : ∃ v, z.getD j 0 = v := ⟨_, rfl⟩
        rw [hv] at fz
        have hv8 := getD8 hzw.out j
        rw [hv] at hv8
        have HBk := Lib.hid (show T.backs z R C K s P Q (j + 1) = T.backs z R C K s P Q j ++ (T.wix R C K s P Q j).map (fun x => (x, v)) from hv ▸ HBks.out j)
        clear ez hv
        obtain ⟨A0, A1, N, Y, X, W, g1, g2, g3, g4, g5, g6, g7, g8, g9, g10, g11, g12, g13, g14, g15, g16, g17⟩ := WIN.out j hlt
        have AT := refAt_some (some ⟨gd, 0, none⟩) 4 4 d j wr (Nat.le_refl _) (HOD5.out.below hbel) (by omega) (by rw [HS.out]; omega)
        rw [HHd.out] at g1
        rw [g1] at AT
        have HAT := Lib.hid AT
        have HW := Lib.hid (fun w => RWin.out (Y : Int) (X : Int) w ⟨by omega, by omega⟩ ⟨by omega, by omega⟩)
        rw [g13] at HW
        have G14 := Lib.hid g14
        have G15 := Lib.hid g15
        have G17 := Lib.hid g17
        clear hbel AT g1 g13 g14 g15 g17
        go_wp2_with fail
        refine HAT.out.mono ?_
        rintro e' w7 ⟨pa, ca, rfl, hat, hb7⟩
        have X7 := Lib.hid (blk_below (blk_below HX5.out HBel.out) hb7)
        have D7 := Lib.hid ((H34'.out.below HBel.out).below hb7)
        have Z7 := Lib.hid ((HZ5.out.below HBel.out).below hb7)
        have O7 := Lib.hid ((HOD5.out.below HBel.out).below hb7)
        have B7 := Lib.hid (HBel.out.step hb7)
        have Blk7 := Lib.hid (blk_below HBlk.out hb7)
        have Own7 := Lib.hid (owned_below HOwn.out hb7)
        have Rl7 := Lib.hid (HRl.out.below hb7)
        have A7 := Lib.hid hat
        clear hat hb7 HAT HBlk HOwn HBel HRl
        obtain ⟨x0, x1, x2, _⟩ := newTensor X7.out
        obtain ⟨_, _, hpd0, ed⟩ := D7.out.cells (by omega)
        cases hpd0
        obtain ⟨pa, oa, rfl, ea⟩ := A7.out.cells (by omega)
        obtain ⟨_, _, hpo, eo⟩ := O7.out.cells (by omega)
        cases hpo
        have d2 := ed 2 (by omega)
        have d3 := ed 3 (by omega)
        rw [HR.out] at d2
        rw [HC.out] at d3
        have o1 := eo 1 (by omega)
        rw [HOut.out] at o1
        have fa0 := ea 0 (by omega)
        have fa1 := ea 1 (by omega)
        have fa2 := ea 2 (by omega)
        have fa3 := ea 3 (by omega)
        simp only [List.getD_cons_zero, List.getD_cons_succ] at fa0 fa1 fa2 fa3 o1
        rw [Nat.add_zero] at fa0
        obtain ⟨m0, hm0⟩ : ∃ m0 : Int, A0 * D1 = m0 := ⟨_, rfl⟩
        obtain ⟨m1, hm1⟩ : ∃ m1 : Int, (N : Int) * R = m1 := ⟨_, rfl⟩
        obtain ⟨bs, hbs⟩ : ∃ bs : Int, m1 * C = bs := ⟨_, rfl⟩
        rw [hm0] at g2 g3 g4
        rw [hm1] at g7 g8 g9 g10 G14
        rw [hbs] at g9 g10 G14
        have n1 : IntKind.i64.wrap (A0 * D1) = m0 := by rw [hm0]; exact IntWalk.i64_in _ (by omega)
        have n2 : IntKind.i64.wrap (m0 + A1) = N := by rw [g2]; exact IntWalk.i64_in _ (by omega)
        have n3 : IntKind.i64.wrap ((N : Int) * R) = m1 := by rw [hm1]; exact IntWalk.i64_in _ (by omega)
        have n4 : IntKind.i64.wrap (m1 * C) = bs := by rw [hbs]; exact IntWalk.i64_in _ (by omega)
        clear ed ea eo g2 hm0 hm1 hbs
        go_wp2_with fail
        go_quiet (fail)
        go_wp2_with fail
        obtain ⟨wq, hwq⟩ : ∃ wq : World, wq = w7.drewN nq := ⟨_, rfl⟩
        have hbq := hwq ▸ below_drewN w7 nq
        have X8 := Lib.hid (blk_below X7.out hbq)
        have D8 := Lib.hid (D7.out.below hbq)
        have Z8 := Lib.hid (Z7.out.below hbq)
        have B8 := Lib.hid (B7.out.step hbq)
        have Blk8 := Lib.hid (blk_below Blk7.out hbq)
        have Own8 := Lib.hid (owned_below Own7.out hbq)
        have Rl8 := Lib.hid (Rl7.out.below hbq)
        have A8 := Lib.hid (A7.out.below hbq)
        rw [← hwq]
        clear x0 x1 x2 d2 d3 o1 fa0 fa1 fa2 fa3 n1 n2 n3 n4 X7 D7 Z7 O7 B7 Blk7 Own7 Rl7 A7 hwq hbq
        obtain ⟨x0, x1, x2, _⟩ := newTensor X8.out
        obtain ⟨_, _, hpd, ed⟩ := D8.out.cells (by omega)
        obtain ⟨_, _, hpa, ea⟩ := A8.out.cells (by omega)
        cases hpd
        cases hpa
        have d2 := ed 2 (by omega)
        have d3 := ed 3 (by omega)
        rw [HR.out] at d2
        rw [HC.out] at d3
        have fa2 := ea 2 (by omega)
        have fa3 := ea 3 (by omega)
        simp only [List.getD_cons_zero, List.getD_cons_succ] at fa2 fa3
        clear ed ea
        go_region_held3 (fun w' => w'.cell? ⟨pd, od + 2, none⟩ = some (.int .i64 R) ∧ w'.cell? ⟨pd, od + 3, none⟩ = some (.int .i64 C) ∧ w'.cell? ⟨pa, oa + 2, none⟩ = some (.int .i64 Y) ∧ w'.cell? ⟨pa, oa + 3, none⟩ = some (.int .i64 X))
          (first | go_keep | (go_split_ands; refine ⟨hb3.cell_of ?_, hb3.cell_of ?_, hb3.cell_of ?_, hb3.cell_of ?_⟩ <;> go_keep))
          (first | (go_at_call 40; refine (HW.out _).mono ?_; rintro e3 w3 ⟨aw, lw, cw, rfl, hw3, hb3⟩))
        have hb9 := (below_drewN wq 1).step hb3
        have X9 := Lib.hid (blk_below X8.out hb9)
        have Z9 := Lib.hid (Z8.out.below hb9)
        have B9 := Lib.hid (B8.out.step hb9)
        have Blk9 := Lib.hid (blk_below Blk8.out hb9)
        have Own9 := Lib.hid (owned_below Own8.out hb9)
        have Rl9 := Lib.hid (Rl8.out.below hb9)
        have HW3 := Lib.hid hw3
        have hlw := hw3.1
        rw [g16] at hlw
        have hK5 : K * K ≤ 25 := Nat.mul_le_mul (show K ≤ 5 by omega) (show K ≤ 5 by omega)
        have hK1 : 1 ≤ K * K := Nat.mul_le_mul (show 1 ≤ K by omega) (show 1 ≤ K by omega)
        have h1m : 0 < n := by
          have h0 : 0 < W.length := by omega
          have := G15.out (bs + (W.getD 0 (0, 0, 0)).1) (by
            rw [G14.out]
            exact List.mem_map.2 ⟨W.getD 0 (0, 0, 0), by simp [List.getD, List.getElem?_eq_getElem h0], rfl⟩)
          rw [HLr.out] at this
          omega
        have HIn := Lib.hid (show ∀ t ∈ W, 0 ≤ bs + t.1 ∧ bs + t.1 < n from fun t ht => by
          have := G15.out (bs + t.1) (by rw [G14.out]; exact List.mem_map.2 ⟨t, ht, rfl⟩)
          rw [HLr.out] at this
          exact this)
        have HPj := Lib.hid (show T.backs z R C K s P Q (j + 1) = T.backs z R C K s P Q j ++ W.map (fun t => (bs + t.1, v)) from by
          rw [HBk.out, G14.out, List.map_map]
          rfl)
        clear x0 x1 x2 d2 d3 fa2 fa3 hb3 hb9 hw3 X8 D8 Z8 B8 Blk8 Own8 Rl8 A8 HW g16
        go_wp2_with fail
        have hga : ∀ ga, aw = some ⟨ga, 0, none⟩ → ga ≠ bd := fun ga h1 h2 => by
          obtain ⟨ga', e1, _, hc⟩ := HW3.out.2.resolve_left (by omega)
          rw [h1] at e1
          cases e1
          have k1 := (hc 0 (by omega)).1
          have k2 := Own9.out.cellAt 0 (by omega)
          rw [h2] at k1
          rw [k1, List.getElem?_map] at k2
          cases h : (T.puts n (T.backs z R C K s P Q j))[0]? <;> simp [h] at k2
        have HGa := Lib.hid hga
        have hb53 := Lib.hid B9.out.size
        have hbo3 := lt_of_block Blk9.out
        have hbl3 := Rl9.out.lt (by omega)
        have HLb := Lib.hid (HBl.out j)
        clear hga
        go_wp2_with fail
        clear fz
        go_loopw [108] (fun i wr => ∃ J : Nat, J ≤ lw ∧ i = .int .i64 J ∧ wr.ownsRow w'.heap.size 21 1 (.slice (some ⟨bd, 0, none⟩) n n) n ((T.puts n (T.backs z R C K s P Q j ++ (W.take J).map (fun t => (bs + t.1, v)))).map (Value.int .i32)) ∧ Kept w3.heap.size (fun g => g = bd) w3 wr) (fun i _ => lw - (intOf i).toNat)
        case atStart => exact ⟨0, Nat.zero_le _, rfl, by rw [List.take_zero, List.map_nil, List.append_nil]; exact Own9.out, ⟨rfl, rfl, rfl, Nat.le_refl _, fun _ _ _ => rfl⟩⟩
        case round =>
          obtain ⟨J, hJ, rfl, hown, hkp⟩ := hrel
          have GO := Lib.hid hown
          have GK := Lib.hid hkp
          have GB := Lib.hid ((hkp.block bo hbo3 (fun e => ga5 e.symm)).trans Blk9.out)
          clear hown
          by_cases hlj : J < lw
          · obtain ⟨ga, rfl, hga, hc⟩ := HW3.out.2.resolve_left (by omega)
            have hgb := HGa.out ga rfl
            obtain ⟨f0, f1, f2⟩ := hc J hlj
            obtain ⟨htk, hmem⟩ := Wn.take_get W J (by rw [HW3.out.1]; exact hlj)
            obtain ⟨hd1, hd2⟩ := HIn.out _ hmem
            obtain ⟨ht1, ht2⟩ := G17.out _ hmem
            replace f0 := hkp.cell (p := ⟨ga, 3 * J, none⟩) hga hgb f0
            replace f1 := hkp.cell (p := ⟨ga, 3 * J + 1, none⟩) hga hgb f1
            replace f2 := hkp.cell (p := ⟨ga, 3 * J + 2, none⟩) hga hgb f2
            rw [Nat.mul_comm 3 J] at f0 f1 f2
            have hub := T.puts_bound n (T.backs z R C K s P Q j ++ (W.take J).map (fun t => (bs + t.1, v))) (fun p hp => by
              rcases List.mem_append.1 hp with h | h
              · exact HBb.out j p h
              · obtain ⟨t, _, rfl⟩ := List.mem_map.1 h
                show -128 ≤ v ∧ v ≤ 128
                omega) (bs + (W.getD J (0, 0, 0)).1).toNat
            have hll : (T.backs z R C K s P Q j ++ (W.take J).map (fun t => (bs + t.1, v))).length ≤ 25 * 8192 + 25 := by
              rw [List.length_append, List.length_map]
              have h1 := HLb.out
              have h2 := List.length_take_le' J W
              have h3 := HW3.out.1
              have h4 := s3
              omega
            have hps : T.puts n (T.backs z R C K s P Q j ++ (W.take (J + 1)).map (fun t => (bs + t.1, v))) = (T.puts n (T.backs z R C K s P Q j ++ (W.take J).map (fun t => (bs + t.1, v)))).set (bs + (W.getD J (0, 0, 0)).1).toNat ((T.puts n (T.backs z R C K s P Q j ++ (W.take J).map (fun t => (bs + t.1, v)))).getD (bs + (W.getD J (0, 0, 0)).1).toNat 0 + v) := by
              rw [htk, List.map_append, ← List.append_assoc, List.map_singleton, T.puts_snoc]
              rfl
            clear hc htk hmem
            generalize W.getD J (0, 0, 0) = tt at *
            obtain ⟨tx, ty, tz⟩ := tt
            simp only [] at hd1 hd2 ht1 ht2 f0 f1 f2 hub hps
            obtain ⟨q, hq⟩ : ∃ q : Nat, bs + tx = q := ⟨(bs + tx).toNat, by omega⟩
            have hqn : q < n := by omega
            have o2 := GO.out.cellAt q (by omega)
            have o3 := GO.out.frozenAt q
            have hlp := T.length_puts n (T.backs z R C K s P Q j ++ (W.take J).map (fun t => (bs + t.1, v)))
            have HQ := Lib.hid hq
            rw [hq, Int.toNat_natCast] at hub hps
            have HPs := Lib.hid hps
            clear hps hkp
            generalize T.puts n (T.backs z R C K s P Q j ++ (W.take J).map (fun t => (bs + t.1, v))) = PL at *
            have hgq : PL[q]? = some (PL.getD q 0) := by simp [List.getD, List.getElem?_eq_getElem (show q < PL.length by omega)]
            rw [List.getElem?_map, hgq, Option.map_some] at o2
            clear hgq hlp
            generalize PL.getD q 0 = u at *
            have w1 : IntKind.i64.wrap (bs + tx) = q := by rw [hq]; exact IntWalk.i64_in _ (by omega)
            have c5 : IntKind.i32.wrap (u + v) = u + v := IntWalk.i32_in _ (by omega)
            have c6 : IntKind.i32.wrap v = v := IntWalk.i32_in _ (by omega)
            have i3 : (0 : Int) ≤ (q : Int) := by omega
            have i4 : (q : Int) < (n : Int) := by omega
            go_upto_region 17 with fail
            obtain ⟨wb, hwb⟩ : ∃ wb : World, wb = wr.alloc (Obj.cells #[.int .i64 tx, .int .i64 ty, .int .i64 tz] 68) := ⟨_, rfl⟩
            have hbb : Below wr.heap.size wr wb := hwb ▸ below_alloc wr _
            obtain ⟨v0, _, _⟩ := cells3 wr (.int .i64 tx) (.int .i64 ty) (.int .i64 tz) 68 (0, 0)
            rw [← hwb] at v0 ⊢
            have GB2 := Lib.hid (blk_below GB.out hbb)
            have GO2 := Lib.hid (owned_below GO.out hbb)
            have GK2 := Lib.hid (GK.out.below GK.out.size hbb)
            obtain ⟨y0, y1, y2, _⟩ := newTensor GB2.out
            replace o2 := hbb.cell_of o2
            replace o3 := GO2.out.frozenAt q
            clear hbb hwb f0 f1 f2
            go_wp2_with fail
            go_roundw
            case rel =>
              refine ⟨J + 1, by omega, by go_num, ?_, ?_⟩
              · have := (GO2.out.stored q (.int .i32 (u + v))).1
                rw [← List.map_set] at this
                rw [HPs.out]
                exact this
              · have := GK2.out.set1 (q := q) (v := .int .i32 (u + v))
                exact ⟨this.os, this.tape, this.output, this.size, this.block⟩
            case measure => simp [intOf]; omega
          · obtain rfl : J = lw := by omega
            have htk : W.take J = W := by rw [← HW3.out.1]; exact List.take_length
            have hb2 := hkp.toBelow B9.out hb53.out (fun g hg => by rw [hg]; exact hbd5)
            have HB2 := Lib.hid hb2
            have HR2 := Lib.hid (hkp.rowAt hbl3 (fun e => ga6 e.symm) Rl9.out)
            have HO2 := Lib.hid (show wr.ownsRow w'.heap.size 21 1 (.slice (some ⟨bd, 0, none⟩) n n) n ((T.puts n (T.backs z R C K s P Q (j + 1))).map (Value.int .i32)) from by
              have := GO.out
              rw [htk, ← HPj.out] at this
              exact this)
            clear htk hb2 hkp
            go_wp2_with fail
            go_roundw
            case rel => exact ⟨j + 1, by omega, by go_num, GB.out, HR2.out, HO2.out, HB2.out⟩
            case measure => simp [intOf]; omega
      · obtain rfl : j = m := by omega
        have hwfp := T.puts_wf n (T.backs z R C K s P Q j) (HBb.out j) (by have := HBl.out j; omega)
        have HRV := Lib.hid (RowAt.owned HOwn.out hwfp (by omega))
        have HR6 := Lib.hid (blk_below HR5.out hbel)
        have B6 := Lib.hid (B5.out.step hbel)
        obtain ⟨q0, q1, q2, _, _, _⟩ := newTensor HBlk.out
        obtain ⟨u0, u1, u2, u3, u4, u5⟩ := newTensor HR6.out
        clear hbel WIN HOwn hwfp
        go_wp2_with fail
        refine bodyPost_ret (v := .tuple #[.agg #[.slice (some ⟨bl, 0, none⟩) 4 cl, .int .i64 EL, .slice (some ⟨bd, 0, none⟩) n n], .int .i64 0]) ?_ rfl ⟨_, 4, cl, _, _, _, rfl, ?_, ?_, ?_⟩
        · obtain ⟨r0, r1, r2, _, _, _⟩ := newTensor (store3 (a := .slice (some ⟨bl, 0, none⟩) 4 cl) (b := .int .i64 EL) (c := .slice (some ⟨bd, 0, none⟩) n n) HR6.out)
          simp [results, Try.results22, go_sem, r0, r1, r2]
        · exact HRl.out.set3 (fun x hx => by cases hx; show bl ≠ w.heap.size + 1; omega)
        · exact HRV.out.set3 (fun x hx => by cases hx; show bd ≠ w.heap.size + 1; omega)
        · exact ((B6.out.setCell (by show w.heap.size ≤ w.heap.size + 1; omega) _).setCell (by show w.heap.size ≤ w.heap.size + 1; omega) _).setCell (by show w.heap.size ≤ w.heap.size + 1; omega) _
end Go.Proofs.Ytaijiihlkcbdhaa
