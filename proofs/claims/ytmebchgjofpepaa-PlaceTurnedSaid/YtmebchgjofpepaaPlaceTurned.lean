/-
  The walk of the law PlaceTurned.
-/
import Derived.Test.YtmebchgjofpepaaPlaceAwake
import Derived.Test.YtmebchgjofpepaaPlaceTurnedPlain
import Derived.Deep.Cut
import Derived.RegionTactic
import Derived.ChangeAlike
import Derived.BigRegion
import Derived.IntWalk
namespace Go.Proofs.Ytmebchgjofpepaa
open Go.RowKit Fl
set_option linter.unusedVariables false
theorem laidOut : laidOutB Try.prog = true := by kernel_rfl
theorem key3row : 31 < Try.prog.types.size := of_decide_eq_true (by kernel_rfl)
theorem key3law : WideMaps.KeyLaw Try.prog 31 := deep_law_laid laidOut (m := 2) (by omega) key3row (by kernel_rfl) (by kernel_rfl)
theorem key3type : Try.prog.keyType 31 = true := by kernel_rfl
theorem key3cells : Try.prog.cellsOf 31 = 3 := by kernel_rfl
theorem intcells : Try.prog.cellsOf 3 = 1 := by kernel_rfl
theorem typesSize : ∃ m, Try.prog.types.size = m + 1 := ⟨Try.prog.types.size - 1, by have := key3row; omega⟩
theorem key3of (xs : List Int) (h : Ct.Fine 3 xs) : keyOf Try.prog 31 (Ct.keyV xs) = some (Ct.keyL xs) := by
  obtain ⟨hl, hw⟩ := h
  match xs, hl with
  | [a, b, c], _ =>
    have wa := hw a (by simp)
    have wb := hw b (by simp)
    have wc := hw c (by simp)
    obtain ⟨m, hm⟩ := typesSize
    unfold keyOf Ct.keyV Ct.keyL
    rw [Try.underlying31, key3type, hm]
    simp [Value.formed, Try.underlying31, key3cells, Program.keyLits, Value.cells, intcells, Try.underlying3, wa, wb, wc, List.range, List.range.loop]
theorem kind3 : Ct.Kind Try.prog 28 31 3 3 :=
  ⟨Try.underlying28, Try.underlying3, key3law, key3of, fun w => by kernel_rfl⟩
theorem WinAt.below {w w' : World} {a : Option Addr} {n : Nat} {L : List (Int × Int × Int)} (h : WinAt w a n L) (hb : Below w.heap.size w w') : WinAt w' a n L := by
  obtain ⟨h1, h2⟩ := h
  refine ⟨h1, h2.imp id ?_⟩
  rintro ⟨g, e, hg, hc⟩
  refine ⟨g, e, Nat.lt_of_lt_of_le hg hb.size, fun j hj => ?_⟩
  obtain ⟨f1, f2, f3⟩ := hc j hj
  exact ⟨hb.cell_of f1, hb.cell_of f2, hb.cell_of f3⟩
set_option maxHeartbeats 4000000 in
theorem placeTurned_any (a0 a1 a2 a3 a4 a5 a6 : Int) (w : World) (w0 : (Lit.int .i64 a0).wf = true) (w1 : (Lit.int .i64 a1).wf = true) (w2 : (Lit.int .i64 a2).wf = true) (w3 : (Lit.int .i64 a3).wf = true) (w4 : (Lit.int .i64 a4).wf = true) (w5 : (Lit.int .i64 a5).wf = true) (w6 : (Lit.int .i64 a6).wf = true) :
    Calls Try.prog 4 #[.int .i64 a0, .int .i64 a1, .int .i64 a2, .int .i64 a3, .int .i64 a4, .int .i64 a5, .int .i64 a6] w fun e w' => e = .returned (.bool true) ∧ Below w.heap.size w w' := by
  clear w0 w1 w2 w3 w4 w5 w6
  have hmm := @run_makeMap Try.prog
  obtain ⟨t0, ht0, hu0⟩ := umod_const a0 8 (by decide)
  obtain ⟨t1, ht1, hu1⟩ := umod_const a1 8 (by decide)
  go_enter Try.func4, Try.ntmps4
  go_wp2_with fail
  generalize hR : 1 + (t0 : Int) = R at *
  generalize hC : 1 + (t1 : Int) = C at *
  have R1 : 1 ≤ R := by omega
  have R2 : R ≤ 8 := by omega
  have C1 : 1 ≤ C := by omega
  have C2 : C ≤ 8 := by omega
  clear hR hC hu0 hu1 ht0 ht1
  refine (window_any R C a2 a3 a4 a5 a6 _).mono ?_
  rintro e wa ⟨p1, n1, c1, rfl, hwa, hba⟩
  have HA := Lib.hid hwa
  have BA := Lib.hid hba
  clear hwa hba
  go_wp2_with fail
  refine (window_any C R a3 a2 a4 a5 a6 _).mono ?_
  rintro e wb ⟨p2, n2, c2, rfl, hwb, hbb⟩
  have HB := Lib.hid hwb
  have hlen : n2 = n1 := by rw [← hwb.1, ← HA.out.1, winW_length]
  have HA2 := Lib.hid (HA.out.below hbb)
  have BB := Lib.hid (BA.out.step hbb)
  subst hlen
  clear hwb hbb HA BA
  go_wp2_with fail
  have HS := Lib.hid (winW_small R C a2 a3 a4 a5 a6)
  have HL1 := Lib.hid (fun t h => (winW_mem (rows := R) (cols := C) (r := a2) (c := a3) (k := a4) (s := a5) (p := a6) (t := t) h))
  have HL2 := Lib.hid (fun t h => (winW_mem (rows := C) (cols := R) (r := a3) (c := a2) (k := a4) (s := a5) (p := a6) (t := t) h))
  have HT := Lib.hid (fun t h => winW_count (winW_turn (rows := R) (cols := C) (r := a2) (c := a3) (k := a4) (s := a5) (p := a6) R1 C1 (t := t) h))
  generalize winW R C a2 a3 a4 a5 a6 = L at *
  generalize winW C R a3 a2 a4 a5 a6 = L2 at *
  have hn : n2 ≤ 25 := by rw [← HA2.out.1]; exact HS.out
  have HM := Lib.hid (Ct.made (P := Try.prog) (k := 31) (e := 3) (n := 3) wb)
  have BM := Lib.hid (below_alloc wb (Obj.map #[] 0))
  generalize wb.alloc (Obj.map #[] 0) = wm at *
  generalize hbm : wb.heap.size = bm at *
  have HBM := Lib.hid hbm
  clear hbm hmm
  go_loopw [56] (fun i wr => ∃ j : Nat, j ≤ n2 ∧ i = .int .i64 j ∧ Ct.At Try.prog 31 3 3 wr bm ((L.take j).map Wn.key) ∧ Below bm wb wr) (fun i _ => n2 - (intOf i).toNat)
  case atStart => exact ⟨0, Nat.zero_le _, rfl, HM.out, BM.out⟩
  case round =>
    obtain ⟨j, hj, rfl, hat, hbn⟩ := hrel
    have AT := Lib.hid hat
    have BN := Lib.hid hbn
    clear hat hbn
    by_cases hlt : j < n2
    · obtain ⟨g, rfl, hg, hc⟩ := (HA2.out.below (HBM.out.symm ▸ BN.out)).2.resolve_left (by omega)
      obtain ⟨f0, f1, f2⟩ := hc j hlt
      obtain ⟨htk, hmem⟩ := Wn.take_key L j (by rw [HA2.out.1]; exact hlt)
      rw [Nat.mul_comm 3 j] at f0 f1 f2
      have HTK := Lib.hid htk
      have HM2 := Lib.hid hmem
      clear htk hmem hc
      generalize L.getD j (0, 0, 0) = tt at *
      obtain ⟨x, y, z⟩ := tt
      have hx : Ct.Fine 3 [x, y, z] := by
        obtain ⟨Y, X, h1, h2, h3, h4, h5, h6, h7, h8, h9, _⟩ := HL1.out _ HM2.out
        simp at h5 h6 h7 h8 h9
        have m1 := Int.mul_le_mul h2 C2 (by omega) (by omega)
        have m2 := Int.mul_nonneg h1 (show 0 ≤ C by omega)
        refine ⟨rfl, fun v hv => ?_⟩
        simp at hv
        rcases hv with rfl | rfl | rfl
        · exact WalkArith.wf_i64 (by omega)
        · exact WalkArith.wf_i64 (by omega)
        · exact WalkArith.wf_i64 (by omega)
      have HX := Lib.hid hx
      clear hx
      go_wp2_with fail
      have AT2 := Lib.hid (AT.out.alloc (Obj.cells #[.int .i64 x, .int .i64 y, .int .i64 z] 30))
      have BN2 := Lib.hid (BN.out.alloc (by rw [← HBM.out]; exact BN.out.size) (Obj.cells #[.int .i64 x, .int .i64 y, .int .i64 z] 30))
      have g0 : (wr.alloc (Obj.cells #[.int .i64 x, .int .i64 y, .int .i64 z] 30)).cell? ⟨wr.heap.size, 0, none⟩ = some (.int .i64 x) := Wn.new3 wr _ _ _ _ 0 _ rfl
      have g1 : (wr.alloc (Obj.cells #[.int .i64 x, .int .i64 y, .int .i64 z] 30)).cell? ⟨wr.heap.size, 1, none⟩ = some (.int .i64 y) := Wn.new3 wr _ _ _ _ 1 _ rfl
      have g2 : (wr.alloc (Obj.cells #[.int .i64 x, .int .i64 y, .int .i64 z] 30)).cell? ⟨wr.heap.size, 2, none⟩ = some (.int .i64 z) := Wn.new3 wr _ _ _ _ 2 _ rfl
      clear f0 f1 f2 hg AT BN
      generalize wr.alloc (Obj.cells #[.int .i64 x, .int .i64 y, .int .i64 z] 30) = wq at *
      generalize wr.heap.size = gq at *
      have hcn : ((L.take j).map Wn.key).length < 30 := by rw [List.length_map, List.length_take]; omega
      have hc0 : ((L.take j).map Wn.key).count [x, y, z] ≤ ((L.take j).map Wn.key).length := List.count_le_length
      obtain ⟨v0, st, w1, w2, e1, e2, e3, hat2, hgr⟩ := (AT2.out.drew).bump kind3 (by unfold maxLen; omega) HX.out
      have e0 := (AT2.out.drew).look kind3 HX.out
      have e0 : (Instr.lookup 28 (.map (some bm)) (.agg #[.int .i64 x, .int .i64 y, .int .i64 z]) false).run Try.prog wq.drew = _ := e0
      have e1 : (Instr.mapEntry 28 (.map (some bm)) (.agg #[.int .i64 x, .int .i64 y, .int .i64 z])).run Try.prog wq.drew = _ := e1
      have e2 : (Instr.lookup 28 (.map (some bm)) (.agg #[.int .i64 x, .int .i64 y, .int .i64 z]) false).run Try.prog w1 = _ := e2
      have HAT := Lib.hid hat2
      have HGR := Lib.hid ((⟨BN2.out.os, BN2.out.tape, BN2.out.output, BN2.out.size, BN2.out.block⟩ : Below bm wb wq.drew).grown hgr (by show bm ≤ wq.heap.size; rw [← HBM.out]; exact BN2.out.size) (fun i hi => by cases hi; exact Nat.le_refl _))
      generalize ((L.take j).map Wn.key).count [x, y, z] = cn at *
      clear hat2 hgr
      go_region
      clear e0 e1 e2 e3 g0 g1 g2 hc0 hcn
      go_wp2
      go_roundw
      case rel => exact ⟨j + 1, by omega, by go_num, HTK.out ▸ HAT.out, HGR.out⟩
      case measure => simp [intOf]; omega
    · have hje : j = n2 := by omega
      have AL := Lib.hid (show Ct.At Try.prog 31 3 3 wr bm (L.map Wn.key) from by
        have := AT.out
        rwa [hje, ← HA2.out.1, List.take_length] at this)
      have HB2 := Lib.hid (HB.out.below (HBM.out.symm ▸ BN.out))
      have BO := Lib.hid (BB.out.step (HBM.out.symm ▸ BN.out))
      clear AT hje BN
      go_wp2
      obtain ⟨wo, rfl⟩ : ∃ wo : World, wo = wr := ⟨_, rfl⟩
      go_loopw [75] (fun i wx => ∃ i2 : Nat, i2 ≤ n2 ∧ i = .int .i64 i2 ∧ Below wo.heap.size wo wx) (fun i _ => n2 - (intOf i).toNat)
      case atStart => exact ⟨0, Nat.zero_le _, rfl, Below.refl _ _⟩
      case round =>
        obtain ⟨i2, hi2, rfl, hbx⟩ := hrel
        have BX := Lib.hid hbx
        clear hbx
        by_cases hl2 : i2 < n2
        · obtain ⟨g2, rfl, hg2, hc⟩ := (HB2.out.below BX.out).2.resolve_left (by omega)
          obtain ⟨f0, f1, f2⟩ := hc i2 hl2
          obtain ⟨_, hmem⟩ := Wn.take_key L2 i2 (by rw [HB2.out.1]; exact hl2)
          rw [Nat.mul_comm 3 i2] at f0 f1 f2
          have HM2 := Lib.hid hmem
          clear hmem hc
          generalize L2.getD i2 (0, 0, 0) = tt at *
          obtain ⟨x, y, z⟩ := tt
          have hcount : (L.map Wn.key).count [x % R * C + x / R, z, y] = 1 := HT.out _ HM2.out
          obtain ⟨Y, X, y1, y2, x1, x2, h5, h6, h7, h8, h9, _⟩ := HL2.out _ HM2.out
          simp only [] at h5 h6 h7 h8 h9
          have m1 := Int.mul_le_mul y2 R2 (by omega) (by omega)
          have m2 := Int.mul_nonneg y1 (show 0 ≤ R by omega)
          have q1 : x.tmod R = x % R := Int.tmod_eq_emod_of_nonneg (by omega)
          have q2 : x.tdiv R = x / R := Int.tdiv_eq_ediv_of_nonneg (by omega)
          have q3 := Int.emod_nonneg x (show R ≠ 0 by omega)
          have q4 := Int.emod_lt_of_pos x (show 0 < R by omega)
          have q5 := Int.ediv_nonneg (show 0 ≤ x by omega) (show 0 ≤ R by omega)
          have q6 : x / R ≤ 200 := Int.ediv_le_of_le_mul (by omega) (by omega)
          clear h5 m1 m2
          generalize x % R = A at *
          generalize x / R = B at *
          have m3 := Int.mul_nonneg q3 (show 0 ≤ C by omega)
          have m4 := Int.mul_le_mul (show A ≤ 8 by omega) C2 (by omega) (by omega)
          have hx : Ct.Fine 3 [A * C + B, z, y] := by
            refine ⟨rfl, fun v hv => ?_⟩
            simp at hv
            rcases hv with rfl | rfl | rfl
            · exact WalkArith.wf_i64 (by omega)
            · exact WalkArith.wf_i64 (by omega)
            · exact WalkArith.wf_i64 (by omega)
          have HX := Lib.hid hx
          have HC := Lib.hid hcount
          clear hx hcount
          go_wp2_with fail
          have g0 : (wr.alloc (Obj.cells #[.int .i64 x, .int .i64 y, .int .i64 z] 30)).cell? ⟨wr.heap.size, 0, none⟩ = some (.int .i64 x) := Wn.new3 wr _ _ _ _ 0 _ rfl
          have g1 : (wr.alloc (Obj.cells #[.int .i64 x, .int .i64 y, .int .i64 z] 30)).cell? ⟨wr.heap.size, 1, none⟩ = some (.int .i64 y) := Wn.new3 wr _ _ _ _ 1 _ rfl
          have g2 : (wr.alloc (Obj.cells #[.int .i64 x, .int .i64 y, .int .i64 z] 30)).cell? ⟨wr.heap.size, 2, none⟩ = some (.int .i64 z) := Wn.new3 wr _ _ _ _ 2 _ rfl
          have BX2 := Lib.hid (BX.out.alloc BX.out.size (Obj.cells #[.int .i64 x, .int .i64 y, .int .i64 z] 30))
          clear f0 f1 f2 hg2 BX
          generalize wr.alloc (Obj.cells #[.int .i64 x, .int .i64 y, .int .i64 z] 30) = wq at *
          generalize wr.heap.size = gq at *
          have e0 : ∀ q, (Instr.lookup 28 (.map (some bm)) (.agg #[.int .i64 (A * C + B), .int .i64 z, .int .i64 y]) false).run Try.prog (wq.drewN q) = .ok (.int .i64 1) (wq.drewN q) := fun q => by
            have := ((AL.out.below BX2.out).drewN q).look kind3 HX.out
            rw [HC.out] at this
            exact this
          have a1 : IntKind.i64.wrap (A * C) = A * C := IntWalk.i64_in _ (by omega)
          have a2 : IntKind.i64.wrap (A * C + B) = A * C + B := IntWalk.i64_in _ (by omega)
          have a3 : (R == 0) = false := by simpa using (show R ≠ 0 by omega)
          go_quiet (fail)
          have BX3 := Lib.hid (BX2.out.draws nq)
          clear e0 a1 a2 a3 g0 g1 g2
          go_wp2
          go_roundw
          case rel => exact ⟨i2 + 1, by omega, by go_num, BX3.out⟩
          case measure => simp [intOf]; omega
        · have B2 := Lib.hid (BO.out.step BX.out)
          go_wp2_with fail
          refine (refO_any R 1 1 0 _).mono ?_
          rw [show outW R 1 1 0 = R by unfold outW; rw [if_pos (by unfold OutOk; omega)]; omega]
          rintro e w' ⟨rfl, rfl⟩
          go_wp2_with (go_at_call 14; refine (aw9_any _).mono ?_; rintro e w3 ⟨rfl, hb⟩)
          go_ret
          exact ⟨rfl, B2.out.step hb⟩
end Go.Proofs.Ytmebchgjofpepaa
