/-
  The walk of Lookers.
-/
import Derived.Test.YtmebchgjofpepaaLookPlain
import Derived.Test.YtmebchgjofpepaaPlaceWindow
import Derived.Test.YtmebchgjofpepaaOwn
namespace Go.Proofs.Ytmebchgjofpepaa
open Go.RowKit Fl
set_option linter.unusedVariables false
theorem WinAt.below {w w' : World} {a : Option Addr} {n : Nat} {L : List (Int × Int × Int)} (h : WinAt w a n L) (hb : Below w.heap.size w w') : WinAt w' a n L := by
  obtain ⟨h1, h2⟩ := h
  refine ⟨h1, h2.imp id ?_⟩
  rintro ⟨g, e, hg, hc⟩
  refine ⟨g, e, Nat.lt_of_lt_of_le hg hb.size, fun j hj => ?_⟩
  obtain ⟨f1, f2, f3⟩ := hc j hj
  exact ⟨hb.cell_of f1, hb.cell_of f2, hb.cell_of f3⟩
theorem WinAt.grown {w w' : World} {row : Option Nat} {a : Option Addr} {n : Nat} {L : List (Int × Int × Int)} (h : WinAt w a n L) (hg : w.grownBy w' row) (hne : ∀ x, a = some x → row ≠ some x.block) : WinAt w' a n L := by
  obtain ⟨h1, h2⟩ := h
  refine ⟨h1, h2.imp id ?_⟩
  rintro ⟨g, e, hgl, hc⟩
  have hr := hne _ e
  refine ⟨g, e, Nat.lt_of_lt_of_le hgl hg.size, fun j hj => ?_⟩
  obtain ⟨f1, f2, f3⟩ := hc j hj
  exact ⟨grown_cell hg f1 hr, grown_cell hg f2 hr, grown_cell hg f3 hr⟩
theorem Wn.take_get (L : List (Int × Int × Int)) (j : Nat) (h : j < L.length) : L.take (j + 1) = L.take j ++ [L.getD j (0, 0, 0)] ∧ L.getD j (0, 0, 0) ∈ L := by
  have e : L.getD j (0, 0, 0) = L[j] := by simp [List.getD, h]
  rw [e, List.take_succ_eq_append_getElem h]
  exact ⟨rfl, List.getElem_mem h⟩
theorem winF_bound {rows cols k s p y x : Int} (hr : rows ≤ 16) (hc : cols ≤ 16) (hc0 : 1 ≤ cols) {t : Int × Int × Int} (h : t ∈ winF rows cols k s p y x) : 0 ≤ t.1 ∧ t.1 ≤ 300 := by
  obtain ⟨i, j, _, _, h1, h2, rfl⟩ := Wn.mem_win.1 h
  have m1 := Int.mul_le_mul h1.2 hc (by omega) (by omega)
  have m2 := Int.mul_nonneg h1.1 (show 0 ≤ cols by omega)
  simp only []
  omega
set_option maxHeartbeats 8000000 in
theorem lookers_yes (rows cols r c k s p : Int) (w : World) (h : lookOk rows cols r c k s p) : Calls Try.prog 23 #[.int .i64 rows, .int .i64 cols, .int .i64 r, .int .i64 c, .int .i64 k, .int .i64 s, .int .i64 p] w (GivesWin (Lk.all (winF rows cols k s p) (outW cols k s p) (r * cols + c) (outW rows k s p).toNat (outW cols k s p).toNat) w) := by
  obtain ⟨o1, o2, r1, r2, c1, c2⟩ := h
  obtain ⟨b1, b2, b3, b4, b5, b6, b7, b8, b9⟩ := outW_bound o1
  obtain ⟨d1, d2, d3, d4, d5, d6, d7, d8, d9⟩ := outW_bound o2
  have PO := Lib.hid (fun w => planeOut_any rows cols k s p w)
  have PW := Lib.hid (fun y x (hy : 0 ≤ y) (hy2 : y ≤ 20) (hx : 0 ≤ x) (hx2 : x ≤ 20) w => planeWindowF_any rows cols s p y x k.toNat w b1 b2 d1 d2 (by omega) (by omega) b5 b6 b7 (by omega) hy hy2 hx hx2)
  rw [show ((k.toNat : Nat) : Int) = k by omega] at PW
  have HFF := (fun a b => winF_small (rows := rows) (cols := cols) (s := s) (p := p) (show k ≤ 5 by omega) a b)
  have HB := Lib.hid (fun y x (t : Int × Int × Int) (h : t ∈ winF rows cols k s p y x) => winF_bound b2 d2 d1 h)
  have PW2 : Hid (∀ y x, 0 ≤ y → y ≤ 20 → 0 ≤ x → x ≤ 20 → ∀ w, Calls Try.prog 34 #[plane rows cols k s p, .int .i64 y, .int .i64 x] w (GivesWinF (winF rows cols k s p y x) w)) := PW
  clear PW
  have HF := Lib.hid HFF
  clear HFF
  have m3 := Int.mul_nonneg r1 (show 0 ≤ cols by omega)
  have m4 := Int.mul_le_mul (show r ≤ 16 by omega) d2 (by omega) (by omega)
  have t1 : 0 ≤ r * cols + c := by omega
  have t2 : r * cols + c ≤ 300 := by omega
  obtain ⟨i0, hi, hz0, hz1, hz2⟩ := info_parts infoWindow
  generalize winF rows cols k s p = F at *
  obtain ⟨m, hm⟩ : ∃ m : Nat, outW rows k s p = m := ⟨(outW rows k s p).toNat, by omega⟩
  obtain ⟨n, hn⟩ : ∃ n : Nat, outW cols k s p = n := ⟨(outW cols k s p).toNat, by omega⟩
  rw [hm] at o1 b9 PO ⊢
  rw [hn] at o2 d9 PO ⊢
  rw [Int.toNat_natCast, Int.toNat_natCast]
  have dm : decide ((m : Int) < 1) = false := decide_eq_false (by omega)
  have dn : decide ((n : Int) < 1) = false := decide_eq_false (by omega)
  clear hm hn b3 b4 b5 b6 b7 b8 d3 d4 d5 d6 d7 d8
  go_enter Try.func23, Try.ntmps23
  go_wp2_with fail
  refine (PO.out _).mono ?_
  rintro e w2 ⟨rfl, hb⟩
  obtain ⟨f0, f1, f2, f3, f4⟩ := planeCells rows cols k s p w
  have g0 := hb.cell_of f0
  have g1 := hb.cell_of f1
  have g2 := hb.cell_of f2
  have g3 := hb.cell_of f3
  have g4 := hb.cell_of f4
  have hB := Lib.hid ((below_alloc w _).step hb)
  clear hb f0 f1 f2 f3 f4 PO
  go_wp2_with fail
  refine (placeIn_yes r 0 (rows - 1) _ r1 r2).mono ?_
  rintro e w' ⟨rfl, rfl⟩
  go_wp2_with fail
  refine (placeIn_yes c 0 (cols - 1) _ c1 c2).mono ?_
  rintro e w' ⟨rfl, rfl⟩
  have G0 := Lib.hid g0
  have G1 := Lib.hid g1
  have G2 := Lib.hid g2
  have G3 := Lib.hid g3
  have G4 := Lib.hid g4
  clear g0 g1 g2 g3 g4
  go_wp2_with fail
  go_loopw [18, 55] (fun l i wr => ∃ Y : Nat, Y ≤ m ∧ i = .int .i64 Y ∧ wr.ownsRow w2.heap.size 30 3 l (Lk.all F n (r * cols + c) Y n).length (Wn.flat (Lk.all F n (r * cols + c) Y n)) ∧ Below w2.heap.size w2 wr) (fun _ i _ => m - (intOf i).toNat)
  case atStart => exact ⟨0, Nat.zero_le _, rfl, World.ownsRow_nil _ _ _ _, Below.refl _ _⟩
  case round =>
    obtain ⟨Y, hY, rfl, hown, hnx⟩ := hrel
    have GO := Lib.hid hown
    have GN := Lib.hid hnx
    clear hown hnx
    obtain ⟨wo, rfl⟩ : ∃ wo : World, wo = wr := ⟨_, rfl⟩
    by_cases hlt : Y < m
    · go_wp2_with fail
      go_loopw [18, 59] (fun l i wr => ∃ X : Nat, X ≤ n ∧ i = .int .i64 X ∧ wr.ownsRow w2.heap.size 30 3 l (Lk.all F n (r * cols + c) Y n ++ Lk.row F n (r * cols + c) Y X).length (Wn.flat (Lk.all F n (r * cols + c) Y n ++ Lk.row F n (r * cols + c) Y X)) ∧ Below w2.heap.size w2 wr) (fun _ i _ => n - (intOf i).toNat)
      case atStart => exact ⟨0, Nat.zero_le _, rfl, by rw [Lk.row_zero, List.append_nil]; exact GO.out, GN.out⟩
      case round =>
        clear GO GN
        obtain ⟨X, hX, rfl, hown, hnx⟩ := hrel
        have GO := Lib.hid hown
        have GN := Lib.hid hnx
        clear hown hnx
        obtain ⟨wo2, rfl⟩ : ∃ wo2 : World, wo2 = wr := ⟨_, rfl⟩
        by_cases hlx : X < n
        · have e0 := GN.out.cell_of G0.out
          have e1 := GN.out.cell_of G1.out
          have e2 := GN.out.cell_of G2.out
          have e3 := GN.out.cell_of G3.out
          have e4 := GN.out.cell_of G4.out
          go_wp2_with fail
          clear e0 e1 e2 e3 e4
          refine (PW2.out Y X (by omega) (by omega) (by omega) (by omega) _).mono ?_
          rintro e w3 ⟨a, l3, c3, rfl, hw3, hb3, hfr⟩
          have hl25 : l3 ≤ 25 := by rw [← hw3.1]; exact HF.out _ _
          have W3 := Lib.hid hw3
          have GO2 := Lib.hid (owned_below GO.out hb3)
          have GN2 := Lib.hid (GN.out.step hb3)
          have GF := Lib.hid (Off.fresh GO.out hfr)
          clear hw3 hb3 hfr GO GN
          go_wp2_with fail
          go_loopw [18, 67] (fun l i wr => ∃ J : Nat, J ≤ l3 ∧ i = .int .i64 J ∧ wr.ownsRow w2.heap.size 30 3 l (Lk.all F n (r * cols + c) Y n ++ Lk.row F n (r * cols + c) Y X ++ Lk.one n Y X (r * cols + c) ((F Y X).take J)).length (Wn.flat (Lk.all F n (r * cols + c) Y n ++ Lk.row F n (r * cols + c) Y X ++ Lk.one n Y X (r * cols + c) ((F Y X).take J))) ∧ WinAt wr a l3 (F Y X) ∧ Below w2.heap.size w2 wr ∧ Off l a) (fun _ i _ => l3 - (intOf i).toNat)
          case atStart => exact ⟨0, Nat.zero_le _, rfl, by rw [List.take_zero, Lk.one_nil, List.append_nil]; exact GO2.out, W3.out, GN2.out, GF.out⟩
          case round =>
            clear GO2 W3 GN2 GF
            obtain ⟨J, hJ, rfl, hown, hwin, hnx, hoff⟩ := hrel
            have GO := Lib.hid hown
            have GW := Lib.hid hwin
            have GN := Lib.hid hnx
            have GF := Lib.hid hoff
            clear hown hwin hnx hoff
            by_cases hlj : J < l3
            · obtain ⟨ga, rfl, hga, hc⟩ := GW.out.2.resolve_left (by omega)
              obtain ⟨f0, f1, f2⟩ := hc J hlj
              obtain ⟨htk, hmem⟩ := Wn.take_get (F Y X) J (by rw [GW.out.1]; exact hlj)
              have hbd := HB.out _ _ _ hmem
              rw [Nat.mul_comm 3 J] at f0 f1 f2
              have hsn := Lk.one_snoc n Y X (r * cols + c) ((F Y X).take J) ((F Y X).getD J (0, 0, 0))
              rw [← htk] at hsn
              clear htk hmem hc
              generalize (F Y X).getD J (0, 0, 0) = tt at *
              obtain ⟨tx, ty, tz⟩ := tt
              obtain ⟨bd1, bd2⟩ := hbd
              simp only [] at bd1 bd2 hsn
              have hln : (Lk.all F n (r * cols + c) Y n ++ Lk.row F n (r * cols + c) Y X ++ Lk.one n Y X (r * cols + c) ((F Y X).take J)).length ≤ 20000 := by
                rw [List.length_append, List.length_append]
                have l1 := Lk.length_all F n (r * cols + c) HF.out n (by omega) Y
                have l2 := Lk.length_row F n (r * cols + c) Y HF.out X
                have l3 := Lk.length_one n Y X (r * cols + c) ((F Y X).take J)
                have l4 : ((F Y X).take J).length ≤ J := List.length_take_le _ _
                omega
              have z0 : (0 : Int) ≤ (Y : Int) * n := Int.mul_nonneg (by omega) (by omega)
              have z1 : (Y : Int) * n ≤ 20 * 20 := Int.mul_le_mul (by omega) (by omega) (by omega) (by omega)
              by_cases ht : tx = r * cols + c
              · rw [if_pos ht] at hsn
                have hsn2 : Lk.all F n (r * cols + c) Y n ++ Lk.row F n (r * cols + c) Y X ++ Lk.one n Y X (r * cols + c) ((F Y X).take (J + 1)) = Lk.all F n (r * cols + c) Y n ++ Lk.row F n (r * cols + c) Y X ++ Lk.one n Y X (r * cols + c) ((F Y X).take J) ++ [((Y : Int) * n + X, ty, tz)] := by
                  rw [hsn, List.append_assoc, List.append_assoc, List.append_assoc]
                generalize Lk.all F n (r * cols + c) Y n ++ Lk.row F n (r * cols + c) Y X ++ Lk.one n Y X (r * cols + c) ((F Y X).take J) = L at *
                have HS := Lib.hid hsn2
                have he : (tx == r * cols + c) = true := by simp [ht]
                clear hsn hsn2 ht
                go_wp2_with (at_builtin; refine wpList_append_where _ rfl _ _ 26 rfl w2.heap.size 30 i0 (.agg #[.int .i64 0, .int .i64 0, .int .i64 0]) 3 24 Try.underlying26 hi hz0 hz1 hz2 rfl (by decide) _ L.length (Wn.flat L) rfl ((GO.out.alloc _).alloc _) ⟨wr.heap.size + 1, 0, none⟩ 1 1 [.int .i64 ((Y : Int) * n + X), .int .i64 ty, .int .i64 tz] rfl rfl ?c1 ?c2 ?c3 ?c4 ?c5 ?c6 ?_)
                case c2 => exact ⟨rfl, rfl, rfl⟩
                case c3 => unfold maxLen; omega
                case c4 => omega
                case c5 => have := GN.out.size; omega
                intro g c' w4 hown2 hgrow hgv hg1 hg2
                have GB := Lib.hid (below_app (GN.out.alloc GN.out.size _) (by have := GN.out.size; rw [World.size_alloc]; omega) (GO.out.alloc _) hgrow)
                have GO2 := Lib.hid (Wn.app (t := ((Y : Int) * n + X, ty, tz)) (M := Lk.all F n (r * cols + c) Y n ++ Lk.row F n (r * cols + c) Y X ++ Lk.one n Y X (r * cols + c) ((F Y X).take (J + 1))) hown2 HS.out)
                have GW2 := Lib.hid ((((GW.out.below (below_alloc wr _)).below (below_alloc _ _)).grown hgrow GF.out))
                have GF2 := Lib.hid (show Off (.slice (some ⟨g, 0, none⟩) (L.length + 1) c') (some ⟨ga, 0, none⟩) from GF.out.new hgv (fun x hx => by cases hx; show ga < wr.heap.size + 1 + 1; omega))
                clear hown2 hgrow hgv f0 f1 f2
                go_wp2
                go_roundw
                case rel => exact ⟨J + 1, by omega, by go_num, GO2.out, GW2.out, GB.out, GF2.out⟩
                case measure => simp [intOf]; omega
              · rw [if_neg ht, List.append_nil] at hsn
                have HS := Lib.hid hsn
                have he : (tx == r * cols + c) = false := by simpa using ht
                have GW2 := Lib.hid (GW.out.below (below_alloc wr (Obj.cells #[.int .i64 tx, .int .i64 ty, .int .i64 tz] 30)))
                have GN2 := Lib.hid (GN.out.step (below_alloc wr (Obj.cells #[.int .i64 tx, .int .i64 ty, .int .i64 tz] 30)))
                have GO2 := Lib.hid (GO.out.alloc (Obj.cells #[.int .i64 tx, .int .i64 ty, .int .i64 tz] 30))
                clear hsn ht
                go_wp2_with fail
                go_roundw
                case rel => exact ⟨J + 1, by omega, by go_num, by rw [HS.out]; exact GO2.out, GW2.out, GN2.out, GF.out⟩
                case measure => simp [intOf]; omega
            · have hje : J = l3 := by omega
              have GO3 := Lib.hid (show wr.ownsRow w2.heap.size 30 3 _ (Lk.all F n (r * cols + c) Y n ++ Lk.row F n (r * cols + c) Y (X + 1)).length (Wn.flat (Lk.all F n (r * cols + c) Y n ++ Lk.row F n (r * cols + c) Y (X + 1))) from by
                have := GO.out
                rw [hje, ← GW.out.1, List.take_length, List.append_assoc, ← Lk.row_succ] at this
                exact this)
              clear GO hje
              go_wp2
              go_roundw
              case rel => exact ⟨X + 1, by omega, by go_num, GO3.out, GN.out⟩
              case measure => simp [intOf]; omega
        · have hxe : X = n := by omega
          have GO3 := Lib.hid (show wo2.ownsRow w2.heap.size 30 3 _ (Lk.all F n (r * cols + c) (Y + 1) n).length (Wn.flat (Lk.all F n (r * cols + c) (Y + 1) n)) from by
            have := GO.out
            rw [hxe, ← Lk.all_succ] at this
            exact this)
          clear GO hxe
          go_wp2
          go_roundw
          case rel => exact ⟨Y + 1, by omega, by go_num, GO3.out, GN.out⟩
          case measure => simp [intOf]; omega
    · have hye : Y = m := by omega
      have hown2 := GO.out
      rw [hye] at hown2
      obtain ⟨a, n3, c', hv, hwin⟩ := WinAt.owned hown2
      rw [hv]
      have GW := Lib.hid hwin
      have GN2 := Lib.hid (GN.out.mono hB.out.size)
      clear hown2 hye hv hwin
      go_wp2
      go_ret
      exact ⟨_, _, _, rfl, GW.out, hB.out.trans GN2.out⟩
set_option maxHeartbeats 2000000 in
theorem lookers_no (rows cols r c k s p : Int) (w : World) (wr : (Lit.int .i64 rows).wf = true) (wc : (Lit.int .i64 cols).wf = true) (h : ¬ lookOk rows cols r c k s p) : Calls Try.prog 23 #[.int .i64 rows, .int .i64 cols, .int .i64 r, .int .i64 c, .int .i64 k, .int .i64 s, .int .i64 p] w (GivesWin [] w) := by
  have PO := Lib.hid (fun w => planeOut_any rows cols k s p w)
  obtain ⟨m0, m20⟩ := outW_max rows k s p
  obtain ⟨n0, n20⟩ := outW_max cols k s p
  have br : 1 ≤ outW rows k s p → 1 ≤ rows ∧ rows ≤ 16 := fun h => by have := outW_bound h; omega
  have bc : 1 ≤ outW cols k s p → 1 ≤ cols ∧ cols ≤ 16 := fun h => by have := outW_bound h; omega
  unfold lookOk at h
  generalize outW rows k s p = m at *
  generalize outW cols k s p = n at *
  have cs : m < 1 ∨ (1 ≤ m ∧ n < 1) ∨ (1 ≤ m ∧ 1 ≤ n ∧ 1 ≤ rows ∧ rows ≤ 16 ∧ (r < 0 ∨ rows - 1 < r)) ∨ (1 ≤ m ∧ 1 ≤ n ∧ 1 ≤ rows ∧ rows ≤ 16 ∧ 0 ≤ r ∧ r ≤ rows - 1 ∧ 1 ≤ cols ∧ cols ≤ 16 ∧ (c < 0 ∨ cols - 1 < c)) := by omega
  clear h br bc wr wc
  rcases cs with h | ⟨h1, h⟩ | ⟨h1, h2, h3, h4, h⟩ | ⟨h1, h2, h3, h4, h5, h6, h7, h8, h⟩
  · go_enter Try.func23, Try.ntmps23
    go_wp2_with fail
    refine (PO.out _).mono ?_
    rintro e w2 ⟨rfl, hb⟩
    have hB := Lib.hid ((below_alloc w _).step hb)
    clear hb
    go_wp2
    go_ret
    exact ⟨_, _, _, rfl, ⟨rfl, Or.inl rfl⟩, hB.out⟩
  · go_enter Try.func23, Try.ntmps23
    go_wp2_with fail
    refine (PO.out _).mono ?_
    rintro e w2 ⟨rfl, hb⟩
    have hB := Lib.hid ((below_alloc w _).step hb)
    clear hb
    go_wp2
    go_ret
    exact ⟨_, _, _, rfl, ⟨rfl, Or.inl rfl⟩, hB.out⟩
  · have IN := Lib.hid (fun w => placeIn_no r 0 (rows - 1) w h)
    clear h
    go_enter Try.func23, Try.ntmps23
    go_wp2_with fail
    refine (PO.out _).mono ?_
    rintro e w2 ⟨rfl, hb⟩
    have hB := Lib.hid ((below_alloc w _).step hb)
    clear hb
    go_wp2_with fail
    refine (IN.out _).mono ?_
    rintro e w' ⟨rfl, rfl⟩
    go_wp2
    go_ret
    exact ⟨_, _, _, rfl, ⟨rfl, Or.inl rfl⟩, hB.out⟩
  · have IN := Lib.hid (fun w => placeIn_no c 0 (cols - 1) w h)
    clear h
    go_enter Try.func23, Try.ntmps23
    go_wp2_with fail
    refine (PO.out _).mono ?_
    rintro e w2 ⟨rfl, hb⟩
    have hB := Lib.hid ((below_alloc w _).step hb)
    clear hb
    go_wp2_with fail
    refine (placeIn_yes r 0 (rows - 1) _ h5 h6).mono ?_
    rintro e w' ⟨rfl, rfl⟩
    go_wp2_with fail
    refine (IN.out _).mono ?_
    rintro e w' ⟨rfl, rfl⟩
    go_wp2
    go_ret
    exact ⟨_, _, _, rfl, ⟨rfl, Or.inl rfl⟩, hB.out⟩
theorem lookers_any (rows cols r c k s p : Int) (w : World) (wr : (Lit.int .i64 rows).wf = true) (wc : (Lit.int .i64 cols).wf = true) : Calls Try.prog 23 #[.int .i64 rows, .int .i64 cols, .int .i64 r, .int .i64 c, .int .i64 k, .int .i64 s, .int .i64 p] w (GivesWin (lookW rows cols r c k s p) w) := by
  unfold lookW
  by_cases h : lookOk rows cols r c k s p
  · rw [if_pos h]; exact lookers_yes rows cols r c k s p w h
  · rw [if_neg h]; exact lookers_no rows cols r c k s p w wr wc h
end Go.Proofs.Ytmebchgjofpepaa
