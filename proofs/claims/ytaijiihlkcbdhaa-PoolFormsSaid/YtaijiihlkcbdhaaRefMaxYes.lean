/-
  The walk of the reference's Max, where there are windows.
-/
import Derived.Test.YtaijiihlkcbdhaaRefMax
namespace Go.Proofs.Ytaijiihlkcbdhaa
open Go.RowKit
set_option linter.unusedVariables false
set_option linter.unusedSimpArgs false
attribute [local go_sem ↓] Go.wp_at_zero Go.wp_at_succ
set_option maxRecDepth 100000 in
set_option maxHeartbeats 16000000 in
theorem refMax_yes (a : Option Addr) (c : Nat) (d : List Int) (e : Int) (b : Option Addr) (m k0 : Nat) (z : List Int) (K : Nat) (s : Int) (w : World) (h0 : RowAt .i64 w a 4 d) (h1 : RowAt .i8 w b m z) (ht : T.may d e z) (ho : overOk d K s) :
    Calls Try.prog 19 #[tensor a 4 c e b m k0, .int .i64 K, .int .i64 s] w (GivesT (T.outDims d K s) e (T.maxOf d z K s) (T.topOf d z K s) 0 w) := by
  obtain ⟨q1, q2, q3, q4, q5, q6, q7, q8, q9, q10, q11, q12, q13⟩ := T.facts ht ho
  obtain ⟨s1, s2, s3, _, _⟩ := T.out_size ht ho
  obtain ⟨_, _, kb1, kb2, sb1, sb2, _, _⟩ := outW_fit (show 1 ≤ outW (d.getD 2 0) K s 0 by omega)
  have M := Lib.hid (fun g w hg h0 h1 => (decide_eq_true ht ▸ refMayOne a 4 c d e b m k0 z g w hg h0 h1 : Calls _ _ _ _ (GivesV (.bool true) w)))
  have PO := Lib.hid (fun w h => (show Calls Try.prog 39 #[.slice a 4 c, .int .i64 K, .int .i64 s] w (PooledOut (T.outDims d K s) true w) from by
    have := refPooled_yes a c d K s w h
    rw [q1, q2, decide_eq_true ⟨by omega, by omega⟩] at this
    exact this))
  obtain ⟨n, hn⟩ : ∃ n, T.count d K s = n := ⟨_, rfl⟩
  have WIN := Lib.hid (fun j (hj : j < n) => T.rwindow ht ho (j := j) (hn ▸ hj))
  have HMax : T.maxOf d z K s = T.maxs z (d.getD 2 0) (d.getD 3 0) K s (T.rowsOf d K s) (T.colsOf d K s) n := by unfold T.maxOf; rw [hn]
  have HTop : T.topOf d z K s = T.tops z (d.getD 2 0) (d.getD 3 0) K s (T.rowsOf d K s) (T.colsOf d K s) n := by unfold T.topOf; rw [hn]
  rw [HMax, HTop]
  rw [hn] at s1 s2 s3
  have hm8 := T.may_len ht
  rw [h1.len_eq] at hm8
  have H0 := Lib.hid h0
  have H1 := Lib.hid h1
  have HS := Lib.hid s1
  have SZ := Lib.hid (fun g w h => refSize_still (some ⟨g, 0, none⟩) 4 4 (T.outDims d K s) w h)
  rw [s1] at SZ
  have RWin := Lib.hid (fun (y x : Int) w (hy : 0 ≤ y ∧ y < (T.rowsOf d K s : Nat)) (hx : 0 ≤ x ∧ x < (T.colsOf d K s : Nat)) => refWindow_yes (d.getD 2 0) (d.getD 3 0) y x s K (T.rowsOf d K s) (T.colsOf d K s) w q1 q2 hy.1 hy.2 hx.1 hx.2)
  have HOD : T.outDims d K s = [d.getD 0 0, d.getD 1 0, ((T.rowsOf d K s : Nat) : Int), ((T.colsOf d K s : Nat) : Int)] := rfl
  have HOut := Lib.hid HOD
  generalize T.outDims d K s = OD at *
  generalize hD1 : d.getD 1 0 = D1 at *
  generalize hR : d.getD 2 0 = R at *
  generalize hC : d.getD 3 0 = C at *
  have HD1 := Lib.hid hD1
  have HR := Lib.hid hR
  have HC := Lib.hid hC
  generalize T.rowsOf d K s = P at *
  generalize T.colsOf d K s = Q at *
  clear h0 h1 ht ho hn HMax HTop HOD hD1 hR hC q1 q2 q3 q4 q5 q6 q7 q8 q9 s1
  unfold tensor
  go_enter Try.func19, Try.ntmps19
  go_wp2_with fail
  refine (M.out _ _ (by
    have := heap_alloc_new ((w.alloc (Obj.cells #[.slice a 4 c, .int .i64 e, .slice b m k0] 25)).alloc (Obj.cells #[.slice none 0 0, .int .i64 0, .slice none 0 0] 25)) (Obj.cells #[.slice a 4 c, .int .i64 e, .slice b m k0] 25)
    rw [World.size_alloc, World.size_alloc] at this
    exact this) (((H0.out.below (below_alloc _ _)).below (below_alloc _ _)).below (below_alloc _ _)) (((H1.out.below (below_alloc _ _)).below (below_alloc _ _)).below (below_alloc _ _))).mono ?_
  rintro e' w4 ⟨rfl, hb⟩
  have HX4 := Lib.hid (blk_below (blk_alloc (blk_alloc (heap_alloc_new w _) _) _) hb)
  have HR4 := Lib.hid (blk_below (blk_alloc (heap_alloc_new (w.alloc _) _) _) hb)
  rw [World.size_alloc] at HR4
  have B4 := Lib.hid ((((below_alloc w _).step (below_alloc _ _)).step (below_alloc _ _)).step hb)
  obtain ⟨x0, x1, x2, _⟩ := newTensor HX4.out
  clear hb M
  go_wp2_with fail
  refine (PO.out _ (H0.out.below B4.out)).mono ?_
  rintro e' w5 ⟨gd, rfl, hrow, hb5⟩
  have HX5 := Lib.hid (blk_below HX4.out hb5)
  have HR5 := Lib.hid (blk_below HR4.out hb5)
  have B5 := Lib.hid (B4.out.step hb5)
  have HD5 := Lib.hid (H0.out.below B5.out)
  have HZ5 := Lib.hid (H1.out.below B5.out)
  have HOD5 := Lib.hid hrow
  have hgd := hrow.lt (by omega)
  have hbx := lt_of_block HX5.out
  have hbr := lt_of_block HR5.out
  clear x0 x1 x2 hb5 PO hrow HX4 HR4 B4
  obtain ⟨x0, x1, x2, _⟩ := newTensor HX5.out
  go_wp2_with fail
  refine (SZ.out _ _ (HOD5.out.below (below_alloc _ _))).mono ?_
  rintro e' w' ⟨rfl, rfl⟩
  go_wp2_with fail
  have T6 := Lib.hid (heap_alloc_new w5 (Obj.cells #[.slice (some ⟨gd, 0, none⟩) 4 4, .int .i64 e, .slice none 0 0] 25))
  have B6 := Lib.hid (below_alloc w5 (Obj.cells #[.slice (some ⟨gd, 0, none⟩) 4 4, .int .i64 e, .slice none 0 0] 25))
  have Z6 := World.size_alloc w5 (Obj.cells #[.slice (some ⟨gd, 0, none⟩) 4 4, .int .i64 e, .slice none 0 0] 25)
  generalize w5.alloc (Obj.cells #[.slice (some ⟨gd, 0, none⟩) 4 4, .int .i64 e, .slice none 0 0] 25) = w6 at *
  clear x0 x1 x2
  go_loopw [12, 41] (fun vf i wr => ∃ (j : Nat) (vd : Value), j ≤ n ∧ i = .int .i64 j ∧ wr.heap[w5.heap.size]? = some (.cells #[.slice (some ⟨gd, 0, none⟩) 4 4, .int .i64 e, vd] 25 (0, 0)) ∧ Two (w5.heap.size + 1) wr vd j (T.maxs z R C K s P Q j) vf j (T.tops z R C K s P Q j) ∧ Below w5.heap.size w5 wr) (fun _ i _ => n - (intOf i).toNat)
  case atStart => exact ⟨0, .slice none 0 0, Nat.zero_le _, rfl, T6.out, ⟨World.ownsRow_nil _ _ _ _, World.ownsRow_nil _ _ _ _, (fun g hg => by cases hg), by omega⟩, B6.out⟩
  case round =>
    obtain ⟨j, vd, hj, rfl, hblk, htwo, hbel⟩ := hrel
    have HBlk := Lib.hid hblk
    have HTwo := Lib.hid htwo
    have HBel := Lib.hid hbel
    clear hblk htwo
    by_cases hlt : j < n
    · obtain ⟨A0, A1, N, Y, X, W, g1, g2, g3, g4, g5, g6, g7, g8, g9, g10, g11, g12, g13, g14, g15, g16, g17⟩ := WIN.out j hlt
      have AT := refAt_some (some ⟨gd, 0, none⟩) 4 4 OD j wr (Nat.le_refl _) (HOD5.out.below hbel) (by omega) (by rw [HS.out]; omega)
      rw [g1] at AT
      have HAT := Lib.hid AT
      have HW := Lib.hid (fun w => RWin.out (Y : Int) (X : Int) w ⟨by omega, by omega⟩ ⟨by omega, by omega⟩)
      rw [g13] at HW
      have G14 := Lib.hid g14
      have G15 := Lib.hid g15
      have G17 := Lib.hid g17
      clear hbel AT g1 g13 g14 g15 g17
      go_wp2_with fail
      refine HAT.out.mono ?_
      rintro e' w7 ⟨pa, ca, rfl, hat, hb7⟩
      have X7 := Lib.hid (blk_below (blk_below HX5.out HBel.out) hb7)
      have D7 := Lib.hid ((HD5.out.below HBel.out).below hb7)
      have Z7 := Lib.hid ((HZ5.out.below HBel.out).below hb7)
      have O7 := Lib.hid ((HOD5.out.below HBel.out).below hb7)
      have B7 := Lib.hid (HBel.out.step hb7)
      have Blk7 := Lib.hid (blk_below HBlk.out hb7)
      have Two7 := Lib.hid (HTwo.out.below hb7)
      have A7 := Lib.hid hat
      clear hat hb7 HAT HBlk HTwo HBel
      obtain ⟨x0, x1, x2, _⟩ := newTensor X7.out
      obtain ⟨pd, od, rfl, ed⟩ := D7.out.cells (by omega)
      obtain ⟨pa, oa, rfl, ea⟩ := A7.out.cells (by omega)
      obtain ⟨_, _, hpo, eo⟩ := O7.out.cells (by omega)
      cases hpo
      have d2 := ed 2 (by omega)
      have d3 := ed 3 (by omega)
      rw [HR.out] at d2
      rw [HC.out] at d3
      have o1 := eo 1 (by omega)
      rw [HOut.out] at o1
      have fa0 := ea 0 (by omega)
      have fa1 := ea 1 (by omega)
      have fa2 := ea 2 (by omega)
      have fa3 := ea 3 (by omega)
      simp only [List.getD_cons_zero, List.getD_cons_succ] at fa0 fa1 fa2 fa3 o1
      rw [Nat.add_zero] at fa0
      obtain ⟨m0, hm0⟩ : ∃ m0 : Int, A0 * D1 = m0 := ⟨_, rfl⟩
      obtain ⟨m1, hm1⟩ : ∃ m1 : Int, (N : Int) * R = m1 := ⟨_, rfl⟩
      obtain ⟨bs, hbs⟩ : ∃ bs : Int, m1 * C = bs := ⟨_, rfl⟩
      rw [hm0] at g2 g3 g4
      rw [hm1] at g7 g8 g9 g10 G14
      rw [hbs] at g9 g10 G14
      have n1 : IntKind.i64.wrap (A0 * D1) = m0 := by rw [hm0]; exact IntWalk.i64_in _ (by omega)
      have n2 : IntKind.i64.wrap (m0 + A1) = N := by rw [g2]; exact IntWalk.i64_in _ (by omega)
      have n3 : IntKind.i64.wrap ((N : Int) * R) = m1 := by rw [hm1]; exact IntWalk.i64_in _ (by omega)
      have n4 : IntKind.i64.wrap (m1 * C) = bs := by rw [hbs]; exact IntWalk.i64_in _ (by omega)
      clear ed ea eo g2 hm0 hm1 hbs
      go_wp2_with fail
      go_quiet (fail)
      go_wp2_with fail
      obtain ⟨wq, hwq⟩ : ∃ wq : World, wq = w7.drewN nq := ⟨_, rfl⟩
      have hbq := hwq ▸ below_drewN w7 nq
      have X8 := Lib.hid (blk_below X7.out hbq)
      have D8 := Lib.hid (D7.out.below hbq)
      have Z8 := Lib.hid (Z7.out.below hbq)
      have B8 := Lib.hid (B7.out.step hbq)
      have Blk8 := Lib.hid (blk_below Blk7.out hbq)
      have Two8 := Lib.hid (Two7.out.below hbq)
      have A8 := Lib.hid (A7.out.below hbq)
      rw [← hwq]
      clear x0 x1 x2 d2 d3 o1 fa0 fa1 fa2 fa3 n1 n2 n3 n4 X7 D7 Z7 O7 B7 Blk7 Two7 A7 hwq hbq
      obtain ⟨x0, x1, x2, _⟩ := newTensor X8.out
      obtain ⟨_, _, hpd, ed⟩ := D8.out.cells (by omega)
      obtain ⟨_, _, hpa, ea⟩ := A8.out.cells (by omega)
      cases hpd
      cases hpa
      have d2 := ed 2 (by omega)
      have d3 := ed 3 (by omega)
      rw [HR.out] at d2
      rw [HC.out] at d3
      have fa2 := ea 2 (by omega)
      have fa3 := ea 3 (by omega)
      simp only [List.getD_cons_zero, List.getD_cons_succ] at fa2 fa3
      clear ed ea
      go_region_held3 (fun w' => w'.cell? ⟨w.heap.size, 0, none⟩ = some (.slice (some ⟨pd, od, none⟩) 4 c) ∧ w'.cell? ⟨pd, od + 2, none⟩ = some (.int .i64 R) ∧ w'.cell? ⟨pd, od + 3, none⟩ = some (.int .i64 C) ∧ w'.cell? ⟨pa, oa + 2, none⟩ = some (.int .i64 Y) ∧ w'.cell? ⟨pa, oa + 3, none⟩ = some (.int .i64 X))
        (first | go_keep | (go_split_ands; refine ⟨hb3.cell_of ?_, hb3.cell_of ?_, hb3.cell_of ?_, hb3.cell_of ?_, hb3.cell_of ?_⟩ <;> go_keep))
        (first | (go_at_call 40; refine (HW.out _).mono ?_; rintro e3 w3 ⟨aw, lw, cw, rfl, hw3, hb3⟩))
      have hb9 := (below_drewN wq 1).step hb3
      have X9 := Lib.hid (blk_below X8.out hb9)
      have Z9 := Lib.hid (Z8.out.below hb9)
      have B9 := Lib.hid (B8.out.step hb9)
      have Blk9 := Lib.hid (blk_below Blk8.out hb9)
      have Two9 := Lib.hid (Two8.out.below hb9)
      have HW3 := Lib.hid hw3
      have hlw := hw3.1
      rw [g16] at hlw
      have hK5 : K * K ≤ 25 := Nat.mul_le_mul (show K ≤ 5 by omega) (show K ≤ 5 by omega)
      have hK1 : 1 ≤ K * K := Nat.mul_le_mul (show 1 ≤ K by omega) (show 1 ≤ K by omega)
      have h1m : 0 < m := by
        have h0 : 0 < W.length := by omega
        have := G15.out (bs + (W.getD 0 (0, 0, 0)).1) (by
          rw [G14.out]
          exact List.mem_map.2 ⟨W.getD 0 (0, 0, 0), by simp [List.getD, List.getElem?_eq_getElem h0], rfl⟩)
        rw [H1.out.len_eq] at this
        omega
      have HIn := Lib.hid (show ∀ t ∈ W, 0 ≤ bs + t.1 ∧ bs + t.1 < m from fun t ht => by
        have := G15.out (bs + t.1) (by rw [G14.out]; exact List.mem_map.2 ⟨t, ht, rfl⟩)
        rw [H1.out.len_eq] at this
        exact this)
      have HTop := Lib.hid (show T.rbest z (W.map (fun t => bs + t.1)) = T.top z R C K s P Q j from by
        rw [← G14.out]
        unfold T.top
        refine T.rbest_eq z _ ?_ fun x hx => (G15.out x hx).1
        rw [G14.out, List.length_map]
        omega)
      clear x0 x1 x2 d2 d3 fa2 fa3 hb3 hb9 hw3 X8 D8 Z8 B8 Blk8 Two8 A8 HW g16
      go_wp2_with fail
      go_loopw [16, 86] (fun bv i wr => ∃ J : Nat, J ≤ lw ∧ i = .int .i64 J ∧ bv = .int .i64 (T.rbest z ((W.take J).map (fun t => bs + t.1))) ∧ Below w3.heap.size w3 wr) (fun _ i _ => lw - (intOf i).toNat)
      case atStart => exact ⟨0, Nat.zero_le _, rfl, rfl, Below.refl _ _⟩
      case round =>
        obtain ⟨J, hJ, rfl, rfl, hnx⟩ := hrel
        have GN := Lib.hid hnx
        have hbb := T.rbest_any z m ((W.take J).map (fun t => bs + t.1)) (fun x hx => by
          obtain ⟨t, ht, rfl⟩ := List.mem_map.1 hx
          exact HIn.out t (List.mem_of_mem_take ht))
        by_cases hlj : J < lw
        · obtain ⟨ga, rfl, hga, hc⟩ := (HW3.out.below hnx).2.resolve_left (by omega)
          obtain ⟨f0, f1, f2⟩ := hc J hlj
          obtain ⟨htk, hmem⟩ := Wn.take_get W J (by rw [HW3.out.1]; exact hlj)
          obtain ⟨hd1, hd2⟩ := HIn.out _ hmem
          obtain ⟨ht1, ht2⟩ := G17.out _ hmem
          rw [Nat.mul_comm 3 J] at f0 f1 f2
          have hsn : T.rbest z ((W.take (J + 1)).map (fun t => bs + t.1)) = if T.rbest z ((W.take J).map (fun t => bs + t.1)) < 0 ∨ z.getD (T.rbest z ((W.take J).map (fun t => bs + t.1))).toNat 0 < z.getD (bs + (W.getD J (0, 0, 0)).1).toNat 0 then bs + (W.getD J (0, 0, 0)).1 else T.rbest z ((W.take J).map (fun t => bs + t.1)) := by
            rw [htk, List.map_append, List.map_singleton, T.rbest_snoc]
          have HSn := Lib.hid hsn
          obtain ⟨pz, oz, rfl, ez⟩ := (Z9.out.below hnx).cells (by omega)
          obtain ⟨_, _, k2, _⟩ := newTensor (blk_below X9.out hnx)
          have k3 := ez (bs + (W.getD J (0, 0, 0)).1).toNat (by omega)
          clear hc htk hmem hga hsn hnx
          generalize W.getD J (0, 0, 0) = tt at *
          obtain ⟨tx, ty, tz⟩ := tt
          simp only [] at hd1 hd2 ht1 ht2 k3 f0 f1 f2
          generalize T.rbest z ((W.take J).map (fun t => bs + t.1)) = bb at *
          have x2 := (below_alloc wr (Obj.cells #[.int .i64 tx, .int .i64 ty, .int .i64 tz] 68)).cell_of k2
          have z1 := (below_alloc wr (Obj.cells #[.int .i64 tx, .int .i64 ty, .int .i64 tz] 68)).cell_of k3
          have w1 : IntKind.i64.wrap (bs + tx) = bs + tx := IntWalk.i64_in _ (by omega)
          have i1 : (0 : Int) ≤ bs + tx := by omega
          have i2 : bs + tx < (m : Int) := by omega
          by_cases cb : bb < 0
          · have c0 : decide (bb < 0) = true := decide_eq_true cb
            have HS2 := Lib.hid (HSn.out.trans (if_pos (Or.inl cb)))
            clear ez k2 k3 hbb cb HSn
            go_wp2_with fail
            go_quiet (fail)
            go_wp2_with fail
            go_roundw
            case rel => exact ⟨J + 1, by omega, by go_num, by rw [HS2.out], (GN.out.alloc GN.out.size _).draws _⟩
            case measure => simp [intOf]; omega
          · have hb0 : 0 ≤ bb := by omega
            have hb1 : bb < m := by omega
            have c0 : decide (bb < 0) = false := decide_eq_false cb
            have k4 := ez bb.toNat (by omega)
            have z2 := (below_alloc wr (Obj.cells #[.int .i64 tx, .int .i64 ty, .int .i64 tz] 68)).cell_of k4
            by_cases cc : z.getD bb.toNat 0 < z.getD (bs + tx).toNat 0
            · have HS2 := Lib.hid (HSn.out.trans (if_pos (Or.inr cc)))
              clear ez k2 k3 k4 hbb cb HSn
              generalize z.getD bb.toNat 0 = xb at *
              generalize z.getD (bs + tx).toNat 0 = xa at *
              have c1 : decide (xb < xa) = true := decide_eq_true cc
              clear cc
              go_wp2_with fail
              go_quiet (fail)
              go_wp2_with fail
              go_roundw
              case rel => exact ⟨J + 1, by omega, by go_num, by rw [HS2.out], (GN.out.alloc GN.out.size _).draws _⟩
              case measure => simp [intOf]; omega
            · have HS2 := Lib.hid (HSn.out.trans (if_neg (fun h => h.elim cb cc)))
              clear ez k2 k3 k4 hbb cb HSn
              generalize z.getD bb.toNat 0 = xb at *
              generalize z.getD (bs + tx).toNat 0 = xa at *
              have c1 : decide (xb < xa) = false := decide_eq_false cc
              clear cc
              go_wp2_with fail
              go_quiet (fail)
              go_wp2_with fail
              go_roundw
              case rel => exact ⟨J + 1, by omega, by go_num, by rw [HS2.out], (GN.out.alloc GN.out.size _).draws _⟩
              case measure => simp [intOf]; omega
        · obtain rfl : J = lw := by omega
          have htk : W.take J = W := by rw [← HW3.out.1]; exact List.take_length
          rw [htk, HTop.out] at hbb ⊢
          have htp : 0 ≤ T.top z R C K s P Q j ∧ T.top z R C K s P Q j < m := by
            rw [← HTop.out]
            have := T.rbest_in z m (W.map (fun t => bs + t.1)) (fun x hx => by
              obtain ⟨t, ht, rfl⟩ := List.mem_map.1 hx
              exact HIn.out t ht) (by rw [List.length_map, HW3.out.1]; omega)
            exact this
          obtain ⟨pz, oz, rfl, ez⟩ := (Z9.out.below hnx).cells (by omega)
          have cz := ez (T.top z R C K s P Q j).toNat (by omega)
          have hpz : pz < w5.heap.size + 1 := by
            have := (HZ5.out.lt (by omega))
            omega
          obtain ⟨x0, x1, xc, _⟩ := newTensor (blk_below X9.out hnx)
          have HBlk := Lib.hid (blk_below Blk9.out hnx)
          have HTwo := Lib.hid (Two9.out.below hnx)
          have HBel := Lib.hid (B9.out.step hnx)
          have HTs := Lib.hid (T.tops_succ z R C K s P Q j)
          have HMs := Lib.hid (T.maxs_succ z R C K s P Q j)
          obtain ⟨bst, hbst⟩ : ∃ bst, T.top z R C K s P Q j = bst := ⟨_, rfl⟩
          rw [hbst] at HTs HMs htp cz ⊢
          generalize z.getD bst.toNat 0 = xb at *
          generalize T.maxs z R C K s P Q j = xs at *
          generalize T.tops z R C K s P Q j = ys at *
          obtain ⟨ht1, ht2⟩ := htp
          have HB5s := Lib.hid (show w5.heap.size + 1 ≤ wr.heap.size from HTwo.out.base)
          have B5a := Lib.hid B5.out
          go_wp2_with fail
          obtain ⟨bt, hbt⟩ : ∃ bt, w5.heap.size = bt := ⟨_, rfl⟩
          have HBT := Lib.hid hbt
          rw [hbt] at HBlk HTwo HBel hpz hbx hbr ⊢
          clear hbt
          have hm1 : (0 : Int) ≤ bst := by omega
          obtain ⟨i0, hi, hz0, hz1, hz2⟩ := info_parts info8
          obtain ⟨j0, ji, jz0, jz1, jz2⟩ := info_parts infoInt
          refine Lt.begins (fun w' : World => w'.cell? ⟨bt, 2, none⟩ = some vd ∧ w'.cell? ⟨w.heap.size, 2, none⟩ = some (.slice (some ⟨pz, oz, none⟩) m k0) ∧ w'.cell? ⟨pz, oz + bst.toNat, none⟩ = some (.int .i8 xb)) (fun j => j == 10) (by kernel_rfl) ?_
          have HM0 := Lib.hid (show RSt w5 wr.drew (bt + 1) bt w.heap.size pz (oz + bst.toNat) (.slice (some ⟨gd, 0, none⟩) 4 4) (.int .i64 e) vd (.slice (some ⟨pz, oz, none⟩) m k0) (.int .i8 xb) vd j xs u12 j ys from ⟨HTwo.out.drew, HBlk.out, xc, cz, HBel.out.draws 1⟩)
          clear x0 x1 xc cz ez hnx GN hbb HBlk HTwo HBel
          generalize wr.drew = w0 at *
          have hS : (fun w' : World => w'.cell? ⟨bt, 2, none⟩ = some vd ∧ w'.cell? ⟨w.heap.size, 2, none⟩ = some (.slice (some ⟨pz, oz, none⟩) m k0) ∧ w'.cell? ⟨pz, oz + bst.toNat, none⟩ = some (.int .i8 xb)) w0 := HM0.out.cells
          refine Lt.take (i := 0) (v := ?_) rfl (by kernel_rfl) (fun _ _ _ h => h) (Or.inl ⟨by rfl, ?_⟩) hS ?_
          rotate_left
          · intro w' hw'
            obtain ⟨s1, s2, s3⟩ := hw'
            go_simp
            try with_reducible rfl
          try simp only [Act.put, List.setIfInBounds_toArray, List.set_cons_zero, List.set_cons_succ]
          refine Lt.take (i := 1) (v := ?_) rfl (by kernel_rfl) (fun _ _ _ h => h) (Or.inl ⟨by rfl, ?_⟩) hS ?_
          rotate_left
          · intro w' hw'
            obtain ⟨s1, s2, s3⟩ := hw'
            go_simp
            try with_reducible rfl
          try simp only [Act.put, List.setIfInBounds_toArray, List.set_cons_zero, List.set_cons_succ]
          refine Lt.take (i := 2) (v := ?_) rfl (by kernel_rfl) (fun _ _ _ h => h) (Or.inl ⟨by rfl, ?_⟩) hS ?_
          rotate_left
          · intro w' hw'
            obtain ⟨s1, s2, s3⟩ := hw'
            go_simp
            try with_reducible rfl
          try simp only [Act.put, List.setIfInBounds_toArray, List.set_cons_zero, List.set_cons_succ]
          refine Lt.take (i := 3) (v := ?_) rfl (by kernel_rfl) (fun _ _ _ h => h) (Or.inl ⟨by rfl, ?_⟩) hS ?_
          rotate_left
          · intro w' hw'
            obtain ⟨s1, s2, s3⟩ := hw'
            go_simp
            try with_reducible rfl
          try simp only [Act.put, List.setIfInBounds_toArray, List.set_cons_zero, List.set_cons_succ]
          refine Lt.take (i := 4) (v := ?_) rfl (by kernel_rfl) (fun _ _ _ h => h) (Or.inl ⟨by rfl, ?_⟩) hS ?_
          rotate_left
          · intro w' hw'
            obtain ⟨s1, s2, s3⟩ := hw'
            go_simp
            try with_reducible rfl
          try simp only [Act.put, List.setIfInBounds_toArray, List.set_cons_zero, List.set_cons_succ]
          refine Lt.take (i := 5) (v := ?_) rfl (by kernel_rfl) (fun _ _ _ h => h) (Or.inl ⟨by rfl, ?_⟩) hS ?_
          rotate_left
          · intro w' hw'
            obtain ⟨s1, s2, s3⟩ := hw'
            go_simp
            try with_reducible rfl
          try simp only [Act.put, List.setIfInBounds_toArray, List.set_cons_zero, List.set_cons_succ]
          refine Lt.take (i := 6) (v := ?_) rfl (by kernel_rfl) (fun _ _ _ h => h) (Or.inl ⟨by rfl, ?_⟩) hS ?_
          rotate_left
          · intro w' hw'
            obtain ⟨s1, s2, s3⟩ := hw'
            go_simp
            try with_reducible rfl
          try simp only [Act.put, List.setIfInBounds_toArray, List.set_cons_zero, List.set_cons_succ]
          refine Lt.all (rs := [7]) (by kernel_rfl) (by simp) ?_
          intro i hq
          obtain rfl : i = 7 := by simpa using hq
          clear hq
          refine Lt.step rfl (fun K hK => ?_)
          go_simp
          refine hK.out _ _ ⟨fun _ => (HM0.out.alloc (by omega) _).cells, ?_⟩
          clear hK K
          try simp only [Act.put, List.setIfInBounds_toArray, List.set_cons_zero, List.set_cons_succ]
          have HM1 := Lib.hid (HM0.out.alloc (by omega) (Obj.cells #[.int .i8 xb] 37))
          have n1 : (w0.alloc (Obj.cells #[.int .i8 xb] 37)).cell? ⟨w0.heap.size, 0, none⟩ = some (.int .i8 xb) := new_one w0 _ _ 0 _ rfl
          have hS := HM1.out.cells
          generalize w0.alloc (Obj.cells #[.int .i8 xb] 37) = wa1 at *
          generalize w0.heap.size = A1 at *
          refine Lt.all (rs := [8]) (by kernel_rfl) (by simp) ?_
          intro i hq
          obtain rfl : i = 8 := by simpa using hq
          clear hq
          refine Lt.step rfl (fun K hK => ?_)
          refine step_append_lies _ (by rfl) _ _ _ (by rfl) (bt + 1) 37 i0 _ 1 1 Try.underlying23 hi hz0 hz1 hz2 rfl (by omega) vd j (xs.map (Value.int .i8)) (by rfl) HM1.out.two.fst ⟨A1, 0, none⟩ 1 1 [.int .i8 xb] (by rfl) (by rfl) (news1 n1) (by simp [Value.oneCell']) (by omega) (by unfold maxLen; omega) (by omega) HM1.out.two.base _ rfl ?_
          intro g1 cap1 w1 hown1 hgrow1 hat1 hlt1
          have HMa := Lib.hid (HM1.out.one (by omega) (by omega) hpz hown1 hgrow1 hat1)
          refine hK.out _ _ ⟨fun _ => HMa.out.cells, ?_⟩
          clear hK K
          try simp only [Act.put, List.setIfInBounds_toArray, List.set_cons_zero, List.set_cons_succ]
          have hS := HMa.out.cells
          clear hown1 hgrow1 hat1 hlt1 n1
          refine Lt.take (i := 9) (v := ?_) rfl (by kernel_rfl) (fun _ _ _ h => h) (Or.inl ⟨by rfl, ?_⟩) hS ?_
          rotate_left
          · intro w' hw'
            obtain ⟨s1, s2, s3⟩ := hw'
            go_simp
            try with_reducible rfl
          try simp only [Act.put, List.setIfInBounds_toArray, List.set_cons_zero, List.set_cons_succ]
          clear hS
          refine Lt.all (rs := [10]) (by kernel_rfl) (by simp) ?_
          intro i hq
          obtain rfl : i = 10 := by simpa using hq
          clear hq
          obtain ⟨oc3, _, _⟩ := HMa.out.cells
          have zo : w1.frozen? ⟨bt, 2, none⟩ = false := by have := HMa.out.ho; simp [World.frozen?, this]
          refine Lt.step rfl (fun K hK => ?_)
          go_simp
          refine hK.out _ _ ⟨fun h => absurd h (by decide), ?_⟩
          clear hK K oc3 zo
          try simp only [Act.put, List.setIfInBounds_toArray, List.set_cons_zero, List.set_cons_succ]
          refine Lt.over (by kernel_rfl) ?_ _
          have HST := Lib.hid (HMa.out.stored (by omega))
          generalize w1.setCell ⟨bt, 2, none⟩ (.slice (some ⟨g1, 0, none⟩) (j + 1) cap1) = w2 at *
          clear HM0 HM1 HMa
          go_wp2_with (at_builtin; refine wpList_append_where _ rfl _ _ 22 rfl (bt + 1) 3 j0 (.int .i64 0) 1 8 Try.underlying22 ji jz0 jz1 jz2 rfl (by decide) u12 j (ys.map (Value.int .i64)) rfl (HST.out.2.1.snd.alloc _) ⟨w2.heap.size, 0, none⟩ 1 1 [.int .i64 bst] rfl rfl ?c1 ?c2 ?c3 ?c4 ?c5 ?c6 ?_)
          case c2 => rfl
          case c3 => unfold maxLen; omega
          case c4 => omega
          case c5 => try rw [World.size_alloc]
                     have := HST.out.2.1.base; omega
          intro g2 cap2 w4 hown2 hgrow2 hat2 hg1 hg2
          have T4 := Lib.hid ((HST.out.2.1.alloc (Obj.cells #[.int .i64 bst] 3)).two hown2 hgrow2 (by rw [World.size_alloc]; exact hat2))
          have nu : u12.ownBlock = some bt → False := fun e => by have := (HST.out.2.1.snd.lt _ e).1; omega
          have O4 := Lib.hid (blk_grown hgrow2 (blk_alloc HST.out.1 _) nu)
          have L4 := Lib.hid ((HST.out.2.2.alloc (by have := HST.out.2.1.base; omega) (Obj.cells #[.int .i64 bst] 3)).grown hgrow2 (by rw [World.size_alloc]; have := HST.out.2.1.base; omega) (fun k e => by have := (HST.out.2.1.snd.lt k e).1; omega))
          clear hown2 hgrow2 hat2 hg1 hg2 nu HST
          have hbt := HBT.out
          clear HBT
          subst hbt
          go_wp2
          go_roundw
          case rel => exact ⟨j + 1, _, by omega, by go_num, O4.out, by rw [HTs.out, HMs.out]; exact T4.out, L4.out⟩
          case measure => simp [intOf]; omega
    · obtain rfl : j = n := by omega
      have hr6 := blk_below HR5.out hbel
      have htw := HTwo.out
      have HTm := T.maxs_wf (z := z) H1.out.wf (R := R) (C := C) (k := K) (s := s) (P := P) (Q := Q) (n := j)
      have HTt : ∀ x ∈ T.tops z R C K s P Q j, (Lit.int .i64 x).wf = true := fun x hx => by
        obtain ⟨i, hi, rfl⟩ := List.mem_map.1 hx
        obtain ⟨_, _, _, _, _, W, _, _, _, _, _, _, _, _, _, _, _, _, _, g14, g15, g16, _⟩ := WIN.out i (List.mem_range.1 hi)
        have hK1 : 1 ≤ K * K := Nat.mul_le_mul (show 1 ≤ K by omega) (show 1 ≤ K by omega)
        have h0 : 0 < (T.wix R C K s P Q i).length := by rw [g14, List.length_map]; omega
        have := g15 (T.top z R C K s P Q i) (by
          unfold T.top
          rcases T.best_mem z (T.wix R C K s P Q i) ((T.wix R C K s P Q i).getD 0 0) with h | h
          · rw [h]; simp [List.getD, List.getElem?_eq_getElem h0]
          · exact h)
        rw [H1.out.len_eq] at this
        exact WalkArith.wf_i64 (by omega)
      obtain ⟨av, cv, rfl, hrv⟩ := RowAt.ownedAny htw.fst HTm (by omega)
      obtain ⟨af, cf, rfl, hrf⟩ := RowAt.ownedAny htw.snd HTt (by omega)
      have HRV := Lib.hid hrv
      have HRF := Lib.hid hrf
      have HRD := Lib.hid (HOD5.out.below hbel)
      have B6 := Lib.hid (B5.out.step hbel)
      have lv := Lib.hid (fun x (h : av = some x) => (htw.fst.lt x.block (by rw [h]; rfl)).1)
      have lf := Lib.hid (fun x (h : af = some x) => (htw.snd.lt x.block (by rw [h]; rfl)).1)
      have HR6 := Lib.hid hr6
      obtain ⟨q0, q1, q2, _, _, _⟩ := newTensor HBlk.out
      obtain ⟨u0, u1, u2, u3, u4, u5⟩ := newTensor hr6
      clear hr6 htw hrv hrf HTm HTt HTwo HBlk HBel hbel WIN
      go_wp2_with fail
      refine bodyPost_ret (v := .tuple #[.agg #[.slice (some ⟨gd, 0, none⟩) 4 4, .int .i64 e, .slice av j cv], .slice af j cf, .int .i64 0]) ?_ rfl ⟨_, 4, 4, _, _, _, _, _, _, rfl, ?_, ?_, ?_, ?_⟩
      · obtain ⟨r0, r1, r2, _, _, _⟩ := newTensor (store3 (a := .slice (some ⟨gd, 0, none⟩) 4 4) (b := .int .i64 e) (c := .slice av j cv) HR6.out)
        simp [results, Try.results19, go_sem, r0, r1, r2]
      · exact HRD.out.set3 (fun x hx => by
          cases hx
          obtain ⟨_, _, he, hc⟩ := HOD5.out.cells (by omega)
          cases he
          have c0 := hc 0 (by omega)
          have c1 := (newTensor HR5.out).1
          show gd ≠ w.heap.size + 1
          intro h
          rw [h, c1] at c0
          cases c0)
      · exact HRV.out.set3 (fun x hx => by have := lv.out x hx; omega)
      · exact HRF.out.set3 (fun x hx => by have := lf.out x hx; omega)
      · exact ((B6.out.setCell (by show w.heap.size ≤ w.heap.size + 1; omega) _).setCell (by show w.heap.size ≤ w.heap.size + 1; omega) _).setCell (by show w.heap.size ≤ w.heap.size + 1; omega) _
end Go.Proofs.Ytaijiihlkcbdhaa
