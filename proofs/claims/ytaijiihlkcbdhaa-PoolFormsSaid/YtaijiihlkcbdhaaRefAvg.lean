/-
  The walk of the reference's Avg.
-/
import Derived.Test.YtaijiihlkcbdhaaRefAvgPlain
namespace Go.Proofs.Ytaijiihlkcbdhaa
open Go.RowKit
set_option linter.unusedVariables false
attribute [local go_sem ↓] Go.wp_at_zero Go.wp_at_succ
set_option maxHeartbeats 4000000 in
theorem refAvg_arg (a : Option Addr) (l c : Nat) (d : List Int) (e : Int) (b : Option Addr) (m k0 : Nat) (z : List Int) (k s : Int) (w : World) (h0 : RowAt .i64 w a l d) (h1 : RowAt .i8 w b m z) (ht : ¬ T.may d e z) :
    Calls Try.prog 21 #[tensor a l c e b m k0, .int .i64 k, .int .i64 s] w (GivesA [] 0 [] 1 w) := by
  have M := Lib.hid (fun g w hg h0 h1 => (decide_eq_false ht ▸ refMayOne a l c d e b m k0 z g w hg h0 h1 : Calls _ _ _ _ (GivesV (.bool false) w)))
  have H0 := Lib.hid h0
  have H1 := Lib.hid h1
  clear h0 h1 ht
  unfold tensor
  go_enter Try.func21, Try.ntmps21
  go_wp2_with fail
  refine (M.out _ _ (by
    have := heap_alloc_new ((w.alloc (Obj.cells #[.slice a l c, .int .i64 e, .slice b m k0] 25)).alloc (Obj.cells #[.slice none 0 0, .int .i64 0, .slice none 0 0] 33)) (Obj.cells #[.slice a l c, .int .i64 e, .slice b m k0] 25)
    rw [World.size_alloc, World.size_alloc] at this
    exact this) (((H0.out.below (below_alloc _ _)).below (below_alloc _ _)).below (below_alloc _ _)) (((H1.out.below (below_alloc _ _)).below (below_alloc _ _)).below (below_alloc _ _))).mono ?_
  rintro e' w4 ⟨rfl, hb⟩
  have HR4 := Lib.hid (blk_below (blk_alloc (heap_alloc_new (w.alloc _) _) _) hb)
  rw [World.size_alloc] at HR4
  have B4 := Lib.hid ((((below_alloc w _).step (below_alloc _ _)).step (below_alloc _ _)).step hb)
  obtain ⟨r0, r1, r2, r3, r4, r5⟩ := newTensor HR4.out
  clear hb M
  go_wp2_with fail
  refine bodyPost_ret (v := .tuple #[.agg #[.slice none 0 0, .int .i64 0, .slice none 0 0], .int .i64 1]) ?_ rfl ?_
  · obtain ⟨t0, t1, t2, _, _, _⟩ := newTensor (store3 (a := .slice none 0 0) (b := .int .i64 0) (c := .slice none 0 0) HR4.out)
    simp [results, Try.results21, go_sem, t0, t1, t2]
  · exact ⟨_, _, _, _, _, _, rfl, RowAt.zero _ _ _, RowAt.zero _ _ _, ((B4.out.setCell (by show w.heap.size ≤ w.heap.size + 1; omega) _).setCell (by show w.heap.size ≤ w.heap.size + 1; omega) _).setCell (by show w.heap.size ≤ w.heap.size + 1; omega) _⟩
set_option maxHeartbeats 4000000 in
theorem refAvg_shape (a : Option Addr) (l c : Nat) (d : List Int) (e : Int) (b : Option Addr) (m k0 : Nat) (z : List Int) (k s : Int) (w : World) (h0 : RowAt .i64 w a l d) (h1 : RowAt .i8 w b m z) (ht : T.may d e z) (ho : ¬ overOk d k s) :
    Calls Try.prog 21 #[tensor a l c e b m k0, .int .i64 k, .int .i64 s] w (GivesA [] 0 [] 2 w) := by
  have M := Lib.hid (fun g w hg h0 h1 => (decide_eq_true ht ▸ refMayOne a l c d e b m k0 z g w hg h0 h1 : Calls _ _ _ _ (GivesV (.bool true) w)))
  have PO := Lib.hid (show ∀ w, RowAt .i64 w a l d → Calls Try.prog 39 #[.slice a l c, .int .i64 k, .int .i64 s] w (fun r w' => ∃ v, r = .returned (.tuple #[v, .bool false]) ∧ Below w.heap.size w w') from fun w h => by
    by_cases hl : l = 4
    · subst hl
      refine (refPooled_yes a c d k s w h).mono ?_
      rintro r w' ⟨g, rfl, _, hb⟩
      rw [decide_eq_false (fun hh => ho ⟨h.len_eq, hh.1, hh.2⟩)]
      exact ⟨_, rfl, hb⟩
    · refine (refPooled_no a l c d k s w h hl).mono ?_
      rintro r w' ⟨rfl, rfl⟩
      exact ⟨_, rfl, Below.refl _ _⟩)
  have H0 := Lib.hid h0
  have H1 := Lib.hid h1
  clear h0 h1 ht ho
  unfold tensor
  go_enter Try.func21, Try.ntmps21
  go_wp2_with fail
  refine (M.out _ _ (by
    have := heap_alloc_new ((w.alloc (Obj.cells #[.slice a l c, .int .i64 e, .slice b m k0] 25)).alloc (Obj.cells #[.slice none 0 0, .int .i64 0, .slice none 0 0] 33)) (Obj.cells #[.slice a l c, .int .i64 e, .slice b m k0] 25)
    rw [World.size_alloc, World.size_alloc] at this
    exact this) (((H0.out.below (below_alloc _ _)).below (below_alloc _ _)).below (below_alloc _ _)) (((H1.out.below (below_alloc _ _)).below (below_alloc _ _)).below (below_alloc _ _))).mono ?_
  rintro e' w4 ⟨rfl, hb⟩
  have HX4 := Lib.hid (blk_below (blk_alloc (blk_alloc (heap_alloc_new w _) _) _) hb)
  have HR4 := Lib.hid (blk_below (blk_alloc (heap_alloc_new (w.alloc _) _) _) hb)
  rw [World.size_alloc] at HR4
  have B4 := Lib.hid ((((below_alloc w _).step (below_alloc _ _)).step (below_alloc _ _)).step hb)
  obtain ⟨x0, x1, x2, _⟩ := newTensor HX4.out
  clear hb M
  go_wp2_with fail
  refine (PO.out _ (H0.out.below B4.out)).mono ?_
  rintro e' w5 ⟨v, rfl, hb5⟩
  have HR5 := Lib.hid (blk_below HR4.out hb5)
  have B5 := Lib.hid (B4.out.step hb5)
  obtain ⟨r0, r1, r2, r3, r4, r5⟩ := newTensor HR5.out
  clear x0 x1 x2 hb5 PO
  go_wp2_with fail
  refine bodyPost_ret (v := .tuple #[.agg #[.slice none 0 0, .int .i64 0, .slice none 0 0], .int .i64 2]) ?_ rfl ?_
  · obtain ⟨t0, t1, t2, _, _, _⟩ := newTensor (store3 (a := .slice none 0 0) (b := .int .i64 0) (c := .slice none 0 0) HR5.out)
    simp [results, Try.results21, go_sem, t0, t1, t2]
  · exact ⟨_, _, _, _, _, _, rfl, RowAt.zero _ _ _, RowAt.zero _ _ _, ((B5.out.setCell (by show w.heap.size ≤ w.heap.size + 1; omega) _).setCell (by show w.heap.size ≤ w.heap.size + 1; omega) _).setCell (by show w.heap.size ≤ w.heap.size + 1; omega) _⟩
set_option maxRecDepth 100000 in
set_option maxHeartbeats 16000000 in
theorem refAvg_yes (a : Option Addr) (c : Nat) (d : List Int) (e : Int) (b : Option Addr) (m k0 : Nat) (z : List Int) (K : Nat) (s : Int) (w : World) (h0 : RowAt .i64 w a 4 d) (h1 : RowAt .i8 w b m z) (ht : T.may d e z) (ho : overOk d K s) :
    Calls Try.prog 21 #[tensor a 4 c e b m k0, .int .i64 K, .int .i64 s] w (GivesA (T.outDims d K s) (e - (K : Int) / 2 * 2) (T.sumOf d z K s) 0 w) := by
  obtain ⟨q1, q2, q3, q4, q5, q6, q7, q8, q9, q10, q11, q12, q13⟩ := T.facts ht ho
  obtain ⟨s1, s2, s3, _, _⟩ := T.out_size ht ho
  obtain ⟨_, _, kb1, kb2, sb1, sb2, _, _⟩ := outW_fit (show 1 ≤ outW (d.getD 2 0) K s 0 by omega)
  have M := Lib.hid (fun g w hg h0 h1 => (decide_eq_true ht ▸ refMayOne a 4 c d e b m k0 z g w hg h0 h1 : Calls _ _ _ _ (GivesV (.bool true) w)))
  have PO := Lib.hid (fun w h => (show Calls Try.prog 39 #[.slice a 4 c, .int .i64 K, .int .i64 s] w (PooledOut (T.outDims d K s) true w) from by
    have := refPooled_yes a c d K s w h
    rw [q1, q2, decide_eq_true ⟨by omega, by omega⟩] at this
    exact this))
  obtain ⟨n, hn⟩ : ∃ n, T.count d K s = n := ⟨_, rfl⟩
  have H1wf := h1.wf
  have hme := ht.2.2.1
  have hex : -128 ≤ e - (K : Int) / 2 * 2 ∧ e - (K : Int) / 2 * 2 ≤ 128 := by omega
  have LS := Lib.hid (fun w => refLess_any (K : Int) w (by omega) (by omega))
  have WIN := Lib.hid (fun j (hj : j < n) => T.rwindow ht ho (j := j) (hn ▸ hj))
  have HSum : T.sumOf d z K s = T.sums z (d.getD 2 0) (d.getD 3 0) K s (T.rowsOf d K s) (T.colsOf d K s) n := by unfold T.sumOf; rw [hn]
  rw [HSum]
  have hwfs := Lib.hid (T.sums_wf H1wf (R := d.getD 2 0) (C := d.getD 3 0) (k := K) (s := s) (P := T.rowsOf d K s) (Q := T.colsOf d K s) (n := n))
  rw [hn] at s1 s2 s3
  have hm8 := T.may_len ht
  rw [h1.len_eq] at hm8
  have H0 := Lib.hid h0
  have H1 := Lib.hid h1
  have HS := Lib.hid s1
  have AC := Lib.hid (fun g w h => refAcc_yes (some ⟨g, 0, none⟩) 4 4 (T.outDims d K s) (e - (K : Int) / 2 * 2) n w h hex s1 s2 s3)
  have RWin := Lib.hid (fun (y x : Int) w (hy : 0 ≤ y ∧ y < (T.rowsOf d K s : Nat)) (hx : 0 ≤ x ∧ x < (T.colsOf d K s : Nat)) => refWindow_yes (d.getD 2 0) (d.getD 3 0) y x s K (T.rowsOf d K s) (T.colsOf d K s) w q1 q2 hy.1 hy.2 hx.1 hx.2)
  have HOD : T.outDims d K s = [d.getD 0 0, d.getD 1 0, ((T.rowsOf d K s : Nat) : Int), ((T.colsOf d K s : Nat) : Int)] := rfl
  have HOut := Lib.hid HOD
  generalize T.outDims d K s = OD at *
  generalize hD1 : d.getD 1 0 = D1 at *
  generalize hR : d.getD 2 0 = R at *
  generalize hC : d.getD 3 0 = C at *
  have HD1 := Lib.hid hD1
  have HR := Lib.hid hR
  have HC := Lib.hid hC
  generalize T.rowsOf d K s = P at *
  generalize T.colsOf d K s = Q at *
  clear h0 h1 ht ho hn HSum HOD hD1 H1wf hR hC q1 q2 q3 q4 q5 q6 q7 q8 q9 s1
  unfold tensor
  go_enter Try.func21, Try.ntmps21
  go_wp2_with fail
  refine (M.out _ _ (by
    have := heap_alloc_new ((w.alloc (Obj.cells #[.slice a 4 c, .int .i64 e, .slice b m k0] 25)).alloc (Obj.cells #[.slice none 0 0, .int .i64 0, .slice none 0 0] 33)) (Obj.cells #[.slice a 4 c, .int .i64 e, .slice b m k0] 25)
    rw [World.size_alloc, World.size_alloc] at this
    exact this) (((H0.out.below (below_alloc _ _)).below (below_alloc _ _)).below (below_alloc _ _)) (((H1.out.below (below_alloc _ _)).below (below_alloc _ _)).below (below_alloc _ _))).mono ?_
  rintro e' w4 ⟨rfl, hb⟩
  have HX4 := Lib.hid (blk_below (blk_alloc (blk_alloc (heap_alloc_new w _) _) _) hb)
  have HR4 := Lib.hid (blk_below (blk_alloc (heap_alloc_new (w.alloc _) _) _) hb)
  rw [World.size_alloc] at HR4
  have B4 := Lib.hid ((((below_alloc w _).step (below_alloc _ _)).step (below_alloc _ _)).step hb)
  obtain ⟨x0, x1, x2, _⟩ := newTensor HX4.out
  clear hb M
  go_wp2_with fail
  refine (PO.out _ (H0.out.below B4.out)).mono ?_
  rintro e' w5 ⟨gd, rfl, hrow, hb5⟩
  have HX5 := Lib.hid (blk_below HX4.out hb5)
  have HR5 := Lib.hid (blk_below HR4.out hb5)
  have B5 := Lib.hid (B4.out.step hb5)
  have HD5 := Lib.hid (H0.out.below B5.out)
  have HZ5 := Lib.hid (H1.out.below B5.out)
  have HOD5 := Lib.hid hrow
  have hgd := hrow.lt (by omega)
  have hbx := lt_of_block HX5.out
  have hbr := lt_of_block HR5.out
  clear x0 x1 x2 hb5 PO hrow HX4 HR4 B4
  have KL0 := Lib.hid (show 0 ≤ (K : Int) / 2 * 2 ∧ (K : Int) / 2 * 2 ≤ 4 from by omega)
  generalize hKL : (K : Int) / 2 * 2 = KL at *
  generalize hEL : e - KL = EL at *
  have HEL := Lib.hid hEL
  have c1 : IntKind.i64.wrap (e - KL) = EL := by rw [hEL]; exact IntWalk.i64_in _ (by omega)
  obtain ⟨x0, x1, x2, _⟩ := newTensor HX5.out
  clear hKL hEL
  go_upto_region 6 with fail
  go_cut [10, 11] (fun s10 s11 wx => AOut (some ⟨gd, 0, none⟩) 4 4 EL n w5 s10 wx ∧ s11 = .int .i64 0)
  case first =>
    go_region_held3 (fun w'' => w''.cell? ⟨w.heap.size, 1, none⟩ = some (.int .i64 e))
      (first | exact cell_realloc (by assumption) (by show w.heap.size < _; omega) | exact cell_set3 (by assumption) (by show w.heap.size ≠ _; omega) | exact hbc.cell_of (by first | assumption | exact cell_alloc1 (by assumption) _) | assumption | exact cell_alloc1 (by assumption) _ | exact cell_drew1 x1 | go_keep)
      (first
        | (go_at_call 42; ((refine (LS.out _).mono ?_); rintro el wl ⟨rfl, rfl⟩))
        | (go_at_call 41; ((refine (AC.out _ _ (by first | with_reducible exact RowAt.drew1 HOD5.out | with_reducible exact RowAt.drew1 (RowAt.alloc1 HOD5.out _))).mono ?_); rintro ea wa ⟨gr, rfl, hoa, hbc⟩; (first | (have hz2 : w5.heap.size + 1 ≤ wa.heap.size := (by have : (World.alloc _ _).heap.size ≤ wa.heap.size := hbc.size; rw [World.size_alloc] at this; exact this)) | (have hz2 : w5.heap.size ≤ wa.heap.size := hbc.size)); (first | (have hy2 := blk_below (w := (World.alloc w5 _).drew) (heap_alloc_new w5 _) hbc; obtain ⟨y0, y1, y2, y3, y4, y5⟩ := newTensor hy2) | skip))))
    all_goals
      go_wp2_with fail
      go_meet
    · exact ⟨AOut.late hoa ((below_drewN w5 1).step hbc), rfl⟩
    all_goals
      have e1 : (World.alloc w5 (Obj.cells #[.slice none 0 0, .int .i64 0, .slice none 0 0] 33)).drew.heap.size = w5.heap.size + 1 := World.size_alloc _ _
      exact ⟨AOut.soon hy2 (e1 ▸ hoa) (((below_alloc w5 _).draws 1).step hbc), rfl⟩
  case rest =>
    obtain ⟨⟨bo, bd, rfl, ho, hown, hb6, ga1, ga2⟩, rfl⟩ := hcut
    obtain ⟨w6, rfl⟩ : ∃ w6 : World, w6 = wc := ⟨_, rfl⟩
    have hbd5 := (hown.lt bd rfl).1
    obtain ⟨f, hf⟩ : ∃ f : Nat → Int, (fun i => T.sum z (T.wix R C K s P Q i)) = f := ⟨_, rfl⟩
    have HFF := Lib.hid (show ∀ i, T.sum z (T.wix R C K s P Q i) = f i from fun i => congrFun hf i)
    have HSums := Lib.hid (show T.sums z R C K s P Q n = (List.range n).map f from by rw [← hf]; rfl)
    rw [T.upTo_zero f n] at hown
    have HO6 := Lib.hid ho
    have HOwn6 := Lib.hid hown
    have HB6 := Lib.hid hb6
    obtain ⟨y0, y1, y2, _⟩ := newTensor ho
    clear x0 x1 x2 c1 ho hown hb6 hf AC LS
    go_wp2_with fail
    clear y0 y1 y2
    go_loopw [50] (fun i wr => ∃ j : Nat, j ≤ n ∧ i = .int .i64 j ∧ wr.heap[bo]? = some (.cells #[.slice (some ⟨gd, 0, none⟩) 4 4, .int .i64 EL, .slice (some ⟨bd, 0, none⟩) n n] 33 (0, 0)) ∧ wr.ownsRow w5.heap.size 21 1 (.slice (some ⟨bd, 0, none⟩) n n) n ((T.upTo f n j).map (Value.int .i32)) ∧ Below w5.heap.size w5 wr) (fun i _ => n - (intOf i).toNat)
    case atStart => exact ⟨0, Nat.zero_le _, rfl, HO6.out, HOwn6.out, HB6.out⟩
    case round =>
      obtain ⟨j, hj, rfl, hblk, hown, hbel⟩ := hrel
      have HBlk := Lib.hid hblk
      have HOwn := Lib.hid hown
      have HBel := Lib.hid hbel
      clear hblk hown
      by_cases hlt : j < n
      · obtain ⟨A0, A1, N, Y, X, W, g1, g2, g3, g4, g5, g6, g7, g8, g9, g10, g11, g12, g13, g14, g15, g16, g17⟩ := WIN.out j hlt
        have AT := refAt_some (some ⟨gd, 0, none⟩) 4 4 OD j wr (Nat.le_refl _) (HOD5.out.below hbel) (by omega) (by rw [HS.out]; omega)
        rw [g1] at AT
        have HAT := Lib.hid AT
        have HW := Lib.hid (fun w => RWin.out (Y : Int) (X : Int) w ⟨by omega, by omega⟩ ⟨by omega, by omega⟩)
        rw [g13] at HW
        have G14 := Lib.hid g14
        have G15 := Lib.hid g15
        have G17 := Lib.hid g17
        clear hbel AT g1 g13 g14 g15 g17
        go_wp2_with fail
        refine HAT.out.mono ?_
        rintro e' w7 ⟨pa, ca, rfl, hat, hb7⟩
        have X7 := Lib.hid (blk_below (blk_below HX5.out HBel.out) hb7)
        have D7 := Lib.hid ((HD5.out.below HBel.out).below hb7)
        have Z7 := Lib.hid ((HZ5.out.below HBel.out).below hb7)
        have O7 := Lib.hid ((HOD5.out.below HBel.out).below hb7)
        have B7 := Lib.hid (HBel.out.step hb7)
        have Blk7 := Lib.hid (blk_below HBlk.out hb7)
        have Own7 := Lib.hid (owned_below HOwn.out hb7)
        have A7 := Lib.hid hat
        clear hat hb7 HAT HBlk HOwn HBel
        obtain ⟨x0, x1, x2, _⟩ := newTensor X7.out
        obtain ⟨pd, od, rfl, ed⟩ := D7.out.cells (by omega)
        obtain ⟨pa, oa, rfl, ea⟩ := A7.out.cells (by omega)
        obtain ⟨_, _, hpo, eo⟩ := O7.out.cells (by omega)
        cases hpo
        have d2 := ed 2 (by omega)
        have d3 := ed 3 (by omega)
        rw [HR.out] at d2
        rw [HC.out] at d3
        have o1 := eo 1 (by omega)
        rw [HOut.out] at o1
        have fa0 := ea 0 (by omega)
        have fa1 := ea 1 (by omega)
        have fa2 := ea 2 (by omega)
        have fa3 := ea 3 (by omega)
        simp only [List.getD_cons_zero, List.getD_cons_succ] at fa0 fa1 fa2 fa3 o1
        rw [Nat.add_zero] at fa0
        obtain ⟨m0, hm0⟩ : ∃ m0 : Int, A0 * D1 = m0 := ⟨_, rfl⟩
        obtain ⟨m1, hm1⟩ : ∃ m1 : Int, (N : Int) * R = m1 := ⟨_, rfl⟩
        obtain ⟨bs, hbs⟩ : ∃ bs : Int, m1 * C = bs := ⟨_, rfl⟩
        rw [hm0] at g2 g3 g4
        rw [hm1] at g7 g8 g9 g10 G14
        rw [hbs] at g9 g10 G14
        have n1 : IntKind.i64.wrap (A0 * D1) = m0 := by rw [hm0]; exact IntWalk.i64_in _ (by omega)
        have n2 : IntKind.i64.wrap (m0 + A1) = N := by rw [g2]; exact IntWalk.i64_in _ (by omega)
        have n3 : IntKind.i64.wrap ((N : Int) * R) = m1 := by rw [hm1]; exact IntWalk.i64_in _ (by omega)
        have n4 : IntKind.i64.wrap (m1 * C) = bs := by rw [hbs]; exact IntWalk.i64_in _ (by omega)
        clear ed ea eo g2 hm0 hm1 hbs
        go_wp2_with fail
        go_quiet (fail)
        go_wp2_with fail
        obtain ⟨wq, hwq⟩ : ∃ wq : World, wq = w7.drewN nq := ⟨_, rfl⟩
        have hbq := hwq ▸ below_drewN w7 nq
        have X8 := Lib.hid (blk_below X7.out hbq)
        have D8 := Lib.hid (D7.out.below hbq)
        have Z8 := Lib.hid (Z7.out.below hbq)
        have B8 := Lib.hid (B7.out.step hbq)
        have Blk8 := Lib.hid (blk_below Blk7.out hbq)
        have Own8 := Lib.hid (owned_below Own7.out hbq)
        have A8 := Lib.hid (A7.out.below hbq)
        rw [← hwq]
        clear x0 x1 x2 d2 d3 o1 fa0 fa1 fa2 fa3 n1 n2 n3 n4 X7 D7 Z7 O7 B7 Blk7 Own7 A7 hwq hbq
        obtain ⟨x0, x1, x2, _⟩ := newTensor X8.out
        obtain ⟨_, _, hpd, ed⟩ := D8.out.cells (by omega)
        obtain ⟨_, _, hpa, ea⟩ := A8.out.cells (by omega)
        cases hpd
        cases hpa
        have d2 := ed 2 (by omega)
        have d3 := ed 3 (by omega)
        rw [HR.out] at d2
        rw [HC.out] at d3
        have fa2 := ea 2 (by omega)
        have fa3 := ea 3 (by omega)
        simp only [List.getD_cons_zero, List.getD_cons_succ] at fa2 fa3
        clear ed ea
        go_region_held3 (fun w' => w'.cell? ⟨w.heap.size, 0, none⟩ = some (.slice (some ⟨pd, od, none⟩) 4 c) ∧ w'.cell? ⟨pd, od + 2, none⟩ = some (.int .i64 R) ∧ w'.cell? ⟨pd, od + 3, none⟩ = some (.int .i64 C) ∧ w'.cell? ⟨pa, oa + 2, none⟩ = some (.int .i64 Y) ∧ w'.cell? ⟨pa, oa + 3, none⟩ = some (.int .i64 X))
          (first | go_keep | (go_split_ands; refine ⟨hb3.cell_of ?_, hb3.cell_of ?_, hb3.cell_of ?_, hb3.cell_of ?_, hb3.cell_of ?_⟩ <;> go_keep))
          (first | (go_at_call 40; refine (HW.out _).mono ?_; rintro e3 w3 ⟨aw, lw, cw, rfl, hw3, hb3⟩))
        have hb9 := (below_drewN wq 1).step hb3
        have X9 := Lib.hid (blk_below X8.out hb9)
        have Z9 := Lib.hid (Z8.out.below hb9)
        have B9 := Lib.hid (B8.out.step hb9)
        have Blk9 := Lib.hid (blk_below Blk8.out hb9)
        have Own9 := Lib.hid (owned_below Own8.out hb9)
        have HW3 := Lib.hid hw3
        have hlw := hw3.1
        rw [g16] at hlw
        have hK5 : K * K ≤ 25 := Nat.mul_le_mul (show K ≤ 5 by omega) (show K ≤ 5 by omega)
        have hK1 : 1 ≤ K * K := Nat.mul_le_mul (show 1 ≤ K by omega) (show 1 ≤ K by omega)
        have h1m : 0 < m := by
          have h0 : 0 < W.length := by omega
          have := G15.out (bs + (W.getD 0 (0, 0, 0)).1) (by
            rw [G14.out]
            exact List.mem_map.2 ⟨W.getD 0 (0, 0, 0), by simp [List.getD, List.getElem?_eq_getElem h0], rfl⟩)
          rw [H1.out.len_eq] at this
          omega
        have HIn := Lib.hid (show ∀ t ∈ W, 0 ≤ bs + t.1 ∧ bs + t.1 < m from fun t ht => by
          have := G15.out (bs + t.1) (by rw [G14.out]; exact List.mem_map.2 ⟨t, ht, rfl⟩)
          rw [H1.out.len_eq] at this
          exact this)
        have HFj := Lib.hid (show f j = T.sum z (W.map (fun t => bs + t.1)) from by rw [← HFF.out, ← G14.out])
        clear x0 x1 x2 d2 d3 fa2 fa3 hb3 hb9 hw3 X8 D8 Z8 B8 Blk8 Own8 A8 HW g16
        go_wp2_with fail
        have hga : ∀ ga, aw = some ⟨ga, 0, none⟩ → ga ≠ bd := fun ga h1 h2 => by
          obtain ⟨ga', e1, _, hc⟩ := HW3.out.2.resolve_left (by omega)
          rw [h1] at e1
          cases e1
          have k1 := (hc 0 (by omega)).1
          have k2 := Own9.out.cellAt 0 (by omega)
          rw [h2] at k1
          rw [k1, List.getElem?_map] at k2
          cases h : (T.upTo f n j)[0]? <;> simp [h] at k2
        have HGa := Lib.hid hga
        have hb53 := Lib.hid B9.out.size
        have HX := Lib.hid (T.upTo_set f n j hlt)
        clear hga
        go_wp2_with fail
        go_loopw [95] (fun i wr => ∃ J : Nat, J ≤ lw ∧ i = .int .i64 J ∧ wr.heap[bo]? = some (.cells #[.slice (some ⟨gd, 0, none⟩) 4 4, .int .i64 EL, .slice (some ⟨bd, 0, none⟩) n n] 33 (0, 0)) ∧ wr.ownsRow w5.heap.size 21 1 (.slice (some ⟨bd, 0, none⟩) n n) n (((T.upTo f n j).set j (T.sum z ((W.take J).map (fun t => bs + t.1)))).map (Value.int .i32)) ∧ Kept w3.heap.size (fun g => g = bd) w3 wr) (fun i _ => lw - (intOf i).toNat)
        case atStart => exact ⟨0, Nat.zero_le _, rfl, Blk9.out, by rw [List.take_zero]; show World.ownsRow _ _ _ _ _ _ (((T.upTo f n j).set j 0).map _); rw [T.upTo_self]; exact Own9.out, ⟨rfl, rfl, rfl, Nat.le_refl _, fun _ _ _ => rfl⟩⟩
        case round =>
          obtain ⟨J, hJ, rfl, hblk, hown, hkp⟩ := hrel
          have GB := Lib.hid hblk
          have GO := Lib.hid hown
          have GK := Lib.hid hkp
          have hsb := T.sum_le (getD8 H1.out.wf) ((W.take J).map (fun t => bs + t.1))
          have hl25 : ((W.take J).map (fun t => bs + t.1)).length ≤ 25 := by rw [List.length_map]; have := List.length_take_le' J W; have := HW3.out.1; omega
          clear hblk hown
          by_cases hlj : J < lw
          · obtain ⟨ga, rfl, hga, hc⟩ := HW3.out.2.resolve_left (by omega)
            have hgb := HGa.out ga rfl
            obtain ⟨f0, f1, f2⟩ := hc J hlj
            obtain ⟨htk, hmem⟩ := Wn.take_get W J (by rw [HW3.out.1]; exact hlj)
            obtain ⟨hd1, hd2⟩ := HIn.out _ hmem
            obtain ⟨ht1, ht2⟩ := G17.out _ hmem
            replace f0 := hkp.cell (p := ⟨ga, 3 * J, none⟩) hga hgb f0
            replace f1 := hkp.cell (p := ⟨ga, 3 * J + 1, none⟩) hga hgb f1
            replace f2 := hkp.cell (p := ⟨ga, 3 * J + 2, none⟩) hga hgb f2
            rw [Nat.mul_comm 3 J] at f0 f1 f2
            have hsn : T.sum z ((W.take (J + 1)).map (fun t => bs + t.1)) = T.sum z ((W.take J).map (fun t => bs + t.1)) + z.getD (bs + (W.getD J (0, 0, 0)).1).toNat 0 := by
              rw [htk, List.map_append, List.map_singleton, T.sum_snoc]
            have HSn := Lib.hid hsn
            have hv := getD8 H1.out.wf (bs + (W.getD J (0, 0, 0)).1).toNat
            obtain ⟨pz, oz, rfl, ez⟩ := Z9.out.cells (by omega)
            have hpz := HZ5.out.lt (by omega)
            have k3 := hkp.cell (p := ⟨pz, oz + (bs + (W.getD J (0, 0, 0)).1).toNat, none⟩) (by show pz < _; have := hb53.out; omega) (by show ¬ pz = bd; omega) (ez (bs + (W.getD J (0, 0, 0)).1).toNat (by omega))
            have k2 := hkp.cell (p := ⟨w.heap.size, 2, none⟩) (by show w.heap.size < _; have := hb53.out; omega) (by show ¬ w.heap.size = bd; omega) (newTensor X9.out).2.2.1
            clear hc htk hmem hsn hkp ez
            generalize W.getD J (0, 0, 0) = tt at *
            obtain ⟨tx, ty, tz⟩ := tt
            simp only [] at hd1 hd2 ht1 ht2 k3 f0 f1 f2 hv
            generalize T.sum z ((W.take J).map (fun t => bs + t.1)) = S at *
            generalize z.getD (bs + tx).toNat 0 = xa at *
            have w1 : IntKind.i64.wrap (bs + tx) = bs + tx := IntWalk.i64_in _ (by omega)
            have i1 : (0 : Int) ≤ bs + tx := by omega
            have i2 : bs + tx < (m : Int) := by omega
            have i3 : (0 : Int) ≤ (j : Int) := by omega
            have i4 : (j : Int) < (n : Int) := by omega
            have c5 : IntKind.i32.wrap (S + xa) = S + xa := IntWalk.i32_in _ (by omega)
            have c6 : IntKind.i32.wrap xa = xa := IntWalk.i32_in _ (by omega)
            go_wp2_with fail
            obtain ⟨wb, hwb⟩ : ∃ wb : World, wb = wr.alloc (Obj.cells #[.int .i64 tx, .int .i64 ty, .int .i64 tz] 68) := ⟨_, rfl⟩
            have hbb : Below wr.heap.size wr wb := hwb ▸ below_alloc wr _
            have x2 := hbb.cell_of k2
            have z1 := hbb.cell_of k3
            obtain ⟨v0, _, _⟩ := cells3 wr (.int .i64 tx) (.int .i64 ty) (.int .i64 tz) 68 (0, 0)
            rw [← hwb] at v0 ⊢
            have GB2 := Lib.hid (blk_below GB.out hbb)
            have GO2 := Lib.hid (owned_below GO.out hbb)
            have GK2 := Lib.hid (GK.out.below GK.out.size hbb)
            obtain ⟨y0, y1, y2, _⟩ := newTensor GB2.out
            have o2 := GO2.out.cellAt j (by omega)
            have o3 := GO2.out.frozenAt j
            rw [List.getElem?_map, List.getElem?_set_self (by rw [T.length_upTo]; exact hlt), Option.map_some] at o2
            clear hbb hwb f0 f1 f2 k2 k3
            go_region
            go_wp2_with fail
            go_roundw
            case rel =>
              refine ⟨J + 1, by omega, by go_num, (Below.heap_setCell _ _ _ _ (fun e => ga2 e.symm)).trans GB2.out, ?_, GK2.out.set1⟩
              have := (GO2.out.stored j (.int .i32 (S + xa))).1
              rw [← List.map_set, List.set_set] at this
              rw [HSn.out]
              exact this.drew
            case measure => simp [intOf]; omega
          · obtain rfl : J = lw := by omega
            have htk : W.take J = W := by rw [← HW3.out.1]; exact List.take_length
            have hb2 := hkp.toBelow B9.out hb53.out (fun g hg => by rw [hg]; exact hbd5)
            have HB2 := Lib.hid hb2
            have HO2 := Lib.hid (show wr.ownsRow w5.heap.size 21 1 (.slice (some ⟨bd, 0, none⟩) n n) n ((T.upTo f n (j + 1)).map (Value.int .i32)) from by
              have := GO.out
              rw [htk, ← HFj.out, HX.out] at this
              exact this)
            clear htk hb2 hkp hsb hl25
            go_wp2_with fail
            go_roundw
            case rel => exact ⟨j + 1, by omega, by go_num, GB.out, HO2.out, HB2.out⟩
            case measure => simp [intOf]; omega
      · obtain rfl : j = n := by omega
        have ho9 := HOwn.out
        rw [T.upTo_all, ← HSums.out] at ho9
        have HRV := Lib.hid (RowAt.owned ho9 hwfs.out (by omega))
        have HRD := Lib.hid (HOD5.out.below hbel)
        have HR6 := Lib.hid (blk_below HR5.out hbel)
        have B6 := Lib.hid (B5.out.step hbel)
        obtain ⟨q0, q1, q2, _, _, _⟩ := newTensor HBlk.out
        obtain ⟨u0, u1, u2, u3, u4, u5⟩ := newTensor HR6.out
        clear ho9 hbel WIN HOwn
        go_wp2_with fail
        refine bodyPost_ret (v := .tuple #[.agg #[.slice (some ⟨gd, 0, none⟩) 4 4, .int .i64 EL, .slice (some ⟨bd, 0, none⟩) j j], .int .i64 0]) ?_ rfl ⟨_, 4, 4, _, _, _, rfl, ?_, ?_, ?_⟩
        · obtain ⟨r0, r1, r2, _, _, _⟩ := newTensor (store3 (a := .slice (some ⟨gd, 0, none⟩) 4 4) (b := .int .i64 EL) (c := .slice (some ⟨bd, 0, none⟩) j j) HR6.out)
          simp [results, Try.results21, go_sem, r0, r1, r2]
        · exact HRD.out.set3 (fun x hx => by
            cases hx
            obtain ⟨_, _, he, hc⟩ := HOD5.out.cells (by omega)
            cases he
            have c0 := hc 0 (by omega)
            have c1 := (newTensor HR5.out).1
            show gd ≠ w.heap.size + 1
            intro h
            rw [h, c1] at c0
            cases c0)
        · exact HRV.out.set3 (fun x hx => by cases hx; show bd ≠ w.heap.size + 1; omega)
        · exact ((B6.out.setCell (by show w.heap.size ≤ w.heap.size + 1; omega) _).setCell (by show w.heap.size ≤ w.heap.size + 1; omega) _).setCell (by show w.heap.size ≤ w.heap.size + 1; omega) _
end Go.Proofs.Ytaijiihlkcbdhaa
