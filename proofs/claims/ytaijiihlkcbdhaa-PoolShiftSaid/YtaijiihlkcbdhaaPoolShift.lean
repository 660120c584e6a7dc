/-
  The walk of the law PoolShift.
-/
import Derived.Test.YtaijiihlkcbdhaaPoolMayT
import Derived.Test.YtaijiihlkcbdhaaPoolShiftPlain
import Derived.Deep.OwnRows
import Derived.Deep.DeepCutAuto
namespace Go.Proofs.Ytaijiihlkcbdhaa
open Go.RowKit
set_option linter.unusedVariables false
attribute [local go_sem ↓] Go.wp_at_zero Go.wp_at_succ
theorem infoI8 : (Try.prog.info? 37).map (fun i => (i.zero, i.size, i.bytes)) = some (some (.int .i8 0), 1, 1) := by kernel_rfl
/-- A tensor like the one that came, its numbers a row of the call's own. -/
def TOut (a : Option Addr) (l c : Nat) (e : Int) (m : Nat) (w4 : World) (v : Value) (wx : World) : Prop := ∃ bo bd, v = .pointer (some ⟨bo, 0, none⟩) ∧ wx.heap[bo]? = some (.cells #[.slice a l c, .int .i64 e, .slice (some ⟨bd, 0, none⟩) m m] 25 (0, 0)) ∧
  wx.ownsRow w4.heap.size 37 1 (.slice (some ⟨bd, 0, none⟩) m m) m (madeCells #[Value.int IntKind.i8 0] m).toList ∧ Below w4.heap.size w4 wx ∧ w4.heap.size ≤ bo ∧ bd ≠ bo
theorem TOut.one (a : Option Addr) (l c : Nat) (e : Int) (m : Nat) (w4 : World) (hm : m ≤ 140737488351232) :
    TOut a l c e m w4 (.pointer (some ⟨w4.heap.size, 0, none⟩)) ((w4.alloc (.cells #[.slice a l c, .int .i64 e, .slice (some ⟨w4.heap.size + 1, 0, none⟩) m m] 25)).alloc (.cells (madeCells #[Value.int IntKind.i8 0] m) 37)).drew := by
  have h := World.ownsRow_lit (base := w4.heap.size) (e := 37) (size := 1) (w4.alloc (.cells #[.slice a l c, .int .i64 e, .slice (some ⟨w4.heap.size + 1, 0, none⟩) m m] 25)) (madeCells #[Value.int IntKind.i8 0] m) m (by rw [World.size_alloc]; omega) (by unfold maxLen; omega) (by rw [size_madeCells]; omega)
  rw [World.size_alloc] at h
  exact ⟨_, _, rfl, blk_alloc (heap_alloc_new w4 _) _, h.drew, ((below_alloc w4 _).step (below_alloc _ _)).draws 1, Nat.le_refl _, by omega⟩
theorem TOut.two (a : Option Addr) (l c : Nat) (e : Int) (m : Nat) (w4 : World) (hm : m ≤ 140737488351232) :
    TOut a l c e m w4 (.pointer (some ⟨w4.heap.size + 1, 0, none⟩)) ((w4.alloc (.cells (madeCells #[Value.int IntKind.i8 0] m) 37)).alloc (.cells #[.slice a l c, .int .i64 e, .slice (some ⟨w4.heap.size, 0, none⟩) m m] 25)).drew := by
  have h := World.ownsRow_lit (base := w4.heap.size) (e := 37) (size := 1) w4 (madeCells #[Value.int IntKind.i8 0] m) m (Nat.le_refl _) (by unfold maxLen; omega) (by rw [size_madeCells]; omega)
  have hn := heap_alloc_new (w4.alloc (.cells (madeCells #[Value.int IntKind.i8 0] m) 37)) (.cells #[.slice a l c, .int .i64 e, .slice (some ⟨w4.heap.size, 0, none⟩) m m] 25)
  rw [World.size_alloc] at hn
  exact ⟨_, _, rfl, hn, (h.alloc _).drew, ((below_alloc w4 _).step (below_alloc _ _)).draws 1, by omega, by omega⟩
theorem refSame_eq (a0 : Option Addr) (len0 cap0 : Nat) (xs : List Int) (a1 : Option Addr) (len1 cap1 : Nat) (w : World) (h0 : RowAt .i64 w a0 len0 xs) (h1 : RowAt .i64 w a1 len1 xs) :
    Calls Try.prog 14 #[.slice a0 len0 cap0, .slice a1 len1 cap1] w (Gives (.bool true) w) := by
  have := refSame_any a0 len0 cap0 xs a1 len1 cap1 xs w h0 h1
  rw [decide_eq_true rfl] at this
  exact this
theorem getD32 {z : List Int} (h : ∀ x ∈ z, (Lit.int .i32 x).wf = true) (i : Nat) : IntKind.i32.wrap (z.getD i 0) = z.getD i 0 := by
  apply IntWalk.i32_in
  by_cases hi : i < z.length
  · have := h _ (show z.getD i 0 ∈ z by simp [List.getD, List.getElem?_eq_getElem hi])
    generalize z.getD i 0 = v at *
    simp [Lit.wf, IntKind.min, IntKind.max, IntKind.signed, IntKind.bits] at this
    omega
  · rw [show z.getD i 0 = 0 by simp [List.getD, List.getElem?_eq_none (Nat.le_of_not_lt hi)]]
    omega
theorem T.up_wf {z : List Int} (hw : ∀ x ∈ z, (Lit.int .i8 x).wf = true) (h : ∀ j, j < z.length → z.getD j 0 ≠ 127) : ∀ x ∈ T.up z, (Lit.int .i8 x).wf = true := by
  intro x hx
  obtain ⟨y, hy, rfl⟩ := List.mem_map.1 hx
  obtain ⟨j, hj, e⟩ := List.getElem_of_mem hy
  have h1 := h j hj
  have h2 := wf8 (hw y hy)
  rw [show z.getD j 0 = y by simp [List.getD, List.getElem?_eq_getElem hj, e]] at h1
  simp [Lit.wf, IntKind.min, IntKind.max, IntKind.signed, IntKind.bits]
  omega
set_option maxRecDepth 100000 in
set_option maxHeartbeats 4000000 in
theorem poolShift_any (a : Option Addr) (l c : Nat) (d : List Int) (e : Int) (b : Option Addr) (m k0 : Nat) (z : List Int) (k s : Int) (w : World) (h0 : RowAt .i64 w a l d) (h1 : RowAt .i8 w b m z) :
    Calls Try.prog 4 #[tensor a l c e b m k0, .int .i64 k, .int .i64 s] w (GivesV (.bool true) w) := by
  have hmm := h1.len_le
  have HLen := Lib.hid h1.len_eq
  have HWf := Lib.hid h1.wf
  have B1 := below_alloc w (Obj.cells #[.slice a l c, .int .i64 e, .slice b m k0] 25)
  have B2 := below_alloc (w.alloc (Obj.cells #[.slice a l c, .int .i64 e, .slice b m k0] 25)) (Obj.cells #[.slice a l c, .int .i64 e, .slice b m k0] 25)
  have N1 := blk_below (tensor_cells w a l c e b m k0 25) B2
  have N2 := newTensor (tensor_cells (w.alloc (Obj.cells #[.slice a l c, .int .i64 e, .slice b m k0] 25)) a l c e b m k0 25)
  rw [World.size_alloc] at N2
  have TT : T.Tens ((w.alloc (Obj.cells #[.slice a l c, .int .i64 e, .slice b m k0] 25)).alloc (Obj.cells #[.slice a l c, .int .i64 e, .slice b m k0] 25)) (w.heap.size + 1) 1 [m] := by
    refine ⟨rfl, fun i hi => ?_⟩
    obtain rfl : i = 0 := by omega
    exact ⟨a, l, c, e, b, k0, by show m ≤ _; omega, N2.1, N2.2.1, N2.2.2.1⟩
  have LT := Lib.hid (light_any (w.heap.size + 1) 1 (by omega) [m] _ TT)
  clear TT
  have HN := Lib.hid N1
  have BB := Lib.hid (B1.step B2)
  have H0 := Lib.hid (h0.below (B1.step B2))
  have H1 := Lib.hid (h1.below (B1.step B2))
  clear N1 N2 B1 B2 h0 h1
  have HS : [m].sum = m := by simp
  rw [HS] at LT
  obtain ⟨B, hB⟩ : ∃ B, decide (m ≤ 2000) = B := ⟨_, rfl⟩
  rw [hB] at LT
  have HB := Lib.hid hB
  clear hB HS
  unfold tensor
  go_enter Try.func4, Try.ntmps4
  go_wp2_with fail
  generalize hw2 : (w.alloc (Obj.cells #[.slice a l c, .int .i64 e, .slice b m k0] 25)).alloc (Obj.cells #[.slice a l c, .int .i64 e, .slice b m k0] 25) = w2 at *
  refine LT.out.mono ?_
  rintro e1 w3 ⟨rfl, hb3⟩
  have N3 := Lib.hid (blk_below HN.out hb3)
  have B3 := Lib.hid (BB.out.step hb3)
  have H03 := Lib.hid (H0.out.below hb3)
  have H13 := Lib.hid (H1.out.below hb3)
  obtain ⟨x0, x1, x2, _⟩ := newTensor N3.out
  clear hw2 HN BB H0 H1 hb3 LT
  cases B
  · go_wp2_with fail
    refine (awakeP_any _).mono ?_
    rintro e1 w4 ⟨rfl, hb4⟩
    go_wp2
    go_ret
    exact ⟨rfl, B3.out.step hb4⟩
  · have hm2 : m ≤ 2000 := of_decide_eq_true HB.out
    have MT := refMayT_any a l c d e b m k0 z w3 H03.out H13.out
    unfold tensor at MT
    obtain ⟨C, hC⟩ : ∃ C, decide (T.may d e z) = C := ⟨_, rfl⟩
    rw [hC] at MT
    have HC := Lib.hid hC
    have M0 := Lib.hid MT
    clear hC MT
    go_wp2_with fail
    refine M0.out.mono ?_
    rintro e1 w4 ⟨rfl, hb4⟩
    have N4 := Lib.hid (blk_below N3.out hb4)
    have B4 := Lib.hid (B3.out.step hb4)
    have H04 := Lib.hid (H03.out.below hb4)
    have H14 := Lib.hid (H13.out.below hb4)
    clear x0 x1 x2 N3 B3 H03 H13 hb4 M0
    obtain ⟨x0, x1, x2, _⟩ := newTensor N4.out
    cases C
    · go_wp2_with fail
      refine (awakeP_any _).mono ?_
      rintro e1 w5 ⟨rfl, hb5⟩
      go_wp2
      go_ret
      exact ⟨rfl, B4.out.step hb5⟩
    · go_wp2_with fail
      have hmk := fun w : World => run_make_row' (P := Try.prog) 23 37 (.int .i8 0) 1 Try.underlying23 infoI8 rfl .i64 .i64 m (by omega) (by omega) w
      go_cut [7] (fun s7 wx => TOut a l c e m w4 s7 wx)
      case first => as_aux_lemma =>
        go_region_held3 (fun w' => w'.cell? ⟨w.heap.size, 0, none⟩ = some (.slice a l c) ∧ w'.cell? ⟨w.heap.size, 1, none⟩ = some (.int .i64 e) ∧ w'.cell? ⟨w.heap.size, 2, none⟩ = some (.slice b m k0)) (go_keep) (fail)
        all_goals
          go_wp2_with fail
          go_meet
          case rel => first | exact TOut.one a l c e m w4 hmm | exact TOut.two a l c e m w4 hmm
      case rest =>
        obtain ⟨bo, bd, rfl, ho, hd4, hb5, hl1, hl2⟩ := hcut
        have HT := Lib.hid (of_decide_eq_true HC.out : T.may d e z)
        rw [T.made_up z m] at hd4
        have HO5 := Lib.hid ho
        have HD5 := Lib.hid hd4
        have HB5 := Lib.hid hb5
        have hs2 : w.heap.size < w4.heap.size := lt_of_block N4.out
        have hs3 : w4.heap.size ≤ bd := (HD5.out.lt bd rfl).1
        clear x0 x1 x2 ho hd4 hb5 hmk HB HC
        obtain ⟨x0, x1, x2, _⟩ := newTensor (blk_below N4.out HB5.out)
        obtain ⟨y0, y1, y2, _⟩ := newTensor HO5.out
        go_wp2_with fail
        obtain ⟨wo, rfl⟩ : ∃ wo : World, wo = wc := ⟨_, rfl⟩
        clear x0 x1 x2 y0 y1 y2
        go_loopw [43] (fun i wr => ∃ j : Nat, j ≤ m ∧ i = .int .i64 j ∧ wr.ownsRow w4.heap.size 37 1 (.slice (some ⟨bd, 0, none⟩) m m) m ((T.upTo z m j).map (Value.int .i8)) ∧ Below w4.heap.size w4 wr ∧ wr.heap[bo]? = some (.cells #[.slice a l c, .int .i64 e, .slice (some ⟨bd, 0, none⟩) m m] 25 (0, 0)) ∧ ∀ x, x < j → z.getD x 0 ≠ 127) (fun i _ => m - (intOf i).toNat)
        case atStart => exact ⟨0, Nat.zero_le _, rfl, HD5.out, HB5.out, HO5.out, fun x hx => by omega⟩
        case round =>
          obtain ⟨j, hj, rfl, hown, hbel, hblk, hs⟩ := hrel
          have HOwn := Lib.hid hown
          have HBel := Lib.hid hbel
          have HBlk := Lib.hid hblk
          have HS := Lib.hid hs
          by_cases hlt : j < m
          · clear hs
            obtain ⟨x0, x1, x2, _⟩ := newTensor (blk_below N4.out hbel)
            obtain ⟨y0, y1, y2, _⟩ := newTensor hblk
            obtain ⟨p0, o0, rfl, e0⟩ := (H14.out.below hbel).cells (by omega)
            have f0 := e0 j hlt
            have f2 := hown.cellAt j (by omega)
            have f3 := hown.frozenAt j
            rw [List.getElem?_map, List.getElem?_eq_getElem (by rw [T.length_upTo]; omega), Option.map_some] at f2
            generalize (T.upTo z m j)[j]'(by rw [T.length_upTo]; omega) = x2v at f2
            have hv := getD8 HWf.out j
            have HSet := Lib.hid (T.upTo_set z m j hlt)
            clear e0 hown hbel hblk
            generalize hX : z.getD j 0 = x at *
            have HX := Lib.hid hX
            clear hX
            by_cases c1 : x = 127
            · subst c1
              go_wp2_with fail
              refine (awakeP_any _).mono ?_
              rintro e1 w6 ⟨rfl, hb6⟩
              go_wp2
              go_ret
              exact ⟨rfl, (B4.out.step HBel.out).step hb6⟩
            · have c2 : (x == 127) = false := by simpa using c1
              have c3 : IntKind.i8.wrap (x + 1) = x + 1 := IntWalk.i8_in _ (by omega)
              have HC1 := Lib.hid c1
              clear c1
              go_wp2
              go_roundw
              case rel =>
                refine ⟨j + 1, by omega, by go_num, ?_, HBel.out.setCell hs3 _, ?_, fun y hy => ?_⟩
                · have := (HOwn.out.stored j (.int .i8 (x + 1))).1
                  rw [← List.map_set, HSet.out] at this
                  exact this
                · rw [Below.heap_setCell _ _ _ _ (fun e => hl2 e.symm)]
                  exact HBlk.out
                · by_cases c : y = j
                  · subst c; rw [HX.out]; exact HC1.out
                  · exact HS.out y (by omega)
              case measure => simp [intOf]; omega
          · obtain rfl : m = j := by omega
            clear hown hbel hblk hs
            have hu := T.upTo_all z
            rw [HLen.out] at hu
            have ho9 := HOwn.out
            rw [hu] at ho9
            have hup : ∀ x ∈ T.up z, (Lit.int .i8 x).wf = true := T.up_wf HWf.out (by rw [HLen.out]; exact HS.out)
            have F_Y := Lib.hid (RowAt.owned ho9 hup hmm)
            have N_X := Lib.hid (blk_below N4.out HBel.out)
            have N_Y := Lib.hid HBlk.out
            have F_D := Lib.hid (H04.out.below HBel.out)
            have F_X := Lib.hid (H14.out.below HBel.out)
            have BB9 := Lib.hid (B4.out.step HBel.out)
            have HEup := Lib.hid (T.err_up (k := k) (s := s) HWf.out HT.out)
            clear hu ho9 hup HOwn HBel HBlk N4 H04 H14 B4 HS HO5 HD5 HB5 hs2 hs3 hl1
            obtain ⟨w9, rfl⟩ : ∃ w9 : World, w9 = wr := ⟨_, rfl⟩
            obtain ⟨x0, x1, x2, _⟩ := newTensor N_X.out
            go_wp2_with fail
            have M := max_gen a l c d e b m k0 z k s w9 F_D.out F_X.out
            unfold tensor at M
            refine M.mono ?_
            rintro r_ wA ⟨ava, avl, avc, avb, avm, avk, avfa, avfl, avfc, rfl, td_, tz_, tf_, hb_⟩
            have xt_ := tensor_cells wA ava avl avc (T.gExp d e z k s) avb avm avk 25
            have bt_ := below_alloc wA (Obj.cells #[.slice ava avl avc, .int .i64 (T.gExp d e z k s), .slice avb avm avk] 25)
            have bb_ := hb_.step bt_
            clear x0 x1 x2 M
            replace N_X := Lib.hid (blk_below N_X.out bb_)
            replace N_Y := Lib.hid (blk_below N_Y.out bb_)
            replace F_D := Lib.hid (F_D.out.below bb_)
            replace F_X := Lib.hid (F_X.out.below bb_)
            replace F_Y := Lib.hid (F_Y.out.below bb_)
            replace BB9 := Lib.hid (BB9.out.step bb_)
            have N_A := Lib.hid xt_
            have F_Az := Lib.hid (tz_.below bt_)
            have F_Af := Lib.hid (tf_.below bt_)
            clear td_ tz_ tf_ hb_ xt_ bt_ bb_
            unfold tensor
            obtain ⟨x0, x1, x2, _⟩ := newTensor N_Y.out
            go_wp2_with fail
            generalize wA.alloc (Obj.cells #[.slice ava avl avc, .int .i64 (T.gExp d e z k s), .slice avb avm avk] 25) = uA at *
            generalize wA.heap.size = gA at *
            have M := max_gen a l c d e (some ⟨bd, 0, none⟩) m m (T.up z) k s uA F_D.out F_Y.out
            rw [HEup.out] at M
            unfold tensor at M
            refine M.mono ?_
            rintro r_ wB ⟨bva, bvl, bvc, bvb, bvm, bvk, bvfa, bvfl, bvfc, rfl, td_, tz_, tf_, hb_⟩
            have xt_ := tensor_cells wB bva bvl bvc (T.gExp d e (T.up z) k s) bvb bvm bvk 25
            have bt_ := below_alloc wB (Obj.cells #[.slice bva bvl bvc, .int .i64 (T.gExp d e (T.up z) k s), .slice bvb bvm bvk] 25)
            have bb_ := hb_.step bt_
            clear x0 x1 x2 M
            replace N_X := Lib.hid (blk_below N_X.out bb_)
            replace N_Y := Lib.hid (blk_below N_Y.out bb_)
            replace N_A := Lib.hid (blk_below N_A.out bb_)
            replace F_D := Lib.hid (F_D.out.below bb_)
            replace F_X := Lib.hid (F_X.out.below bb_)
            replace F_Y := Lib.hid (F_Y.out.below bb_)
            replace F_Az := Lib.hid (F_Az.out.below bb_)
            replace F_Af := Lib.hid (F_Af.out.below bb_)
            replace BB9 := Lib.hid (BB9.out.step bb_)
            have N_B := Lib.hid xt_
            have F_Bz := Lib.hid (tz_.below bt_)
            have F_Bf := Lib.hid (tf_.below bt_)
            clear td_ tz_ tf_ hb_ xt_ bt_ bb_
            unfold tensor
            obtain ⟨x0, x1, x2, _⟩ := newTensor N_X.out
            go_wp2_with fail
            generalize wB.alloc (Obj.cells #[.slice bva bvl bvc, .int .i64 (T.gExp d e (T.up z) k s), .slice bvb bvm bvk] 25) = uB at *
            generalize wB.heap.size = gB at *
            have M := avg_gen a l c d e b m k0 z k s uB F_D.out F_X.out
            unfold tensor at M
            refine M.mono ?_
            rintro r_ wC ⟨cva, cvl, cvc, cvb, cvm, cvk, rfl, td_, tz_, hb_⟩
            have xt_ := tensor_cells wC cva cvl cvc (T.gLess d e z k s) cvb cvm cvk 33
            have bt_ := below_alloc wC (Obj.cells #[.slice cva cvl cvc, .int .i64 (T.gLess d e z k s), .slice cvb cvm cvk] 33)
            have bb_ := hb_.step bt_
            clear x0 x1 x2 M
            replace N_X := Lib.hid (blk_below N_X.out bb_)
            replace N_Y := Lib.hid (blk_below N_Y.out bb_)
            replace N_A := Lib.hid (blk_below N_A.out bb_)
            replace N_B := Lib.hid (blk_below N_B.out bb_)
            replace F_D := Lib.hid (F_D.out.below bb_)
            replace F_X := Lib.hid (F_X.out.below bb_)
            replace F_Y := Lib.hid (F_Y.out.below bb_)
            replace F_Az := Lib.hid (F_Az.out.below bb_)
            replace F_Af := Lib.hid (F_Af.out.below bb_)
            replace F_Bz := Lib.hid (F_Bz.out.below bb_)
            replace F_Bf := Lib.hid (F_Bf.out.below bb_)
            replace BB9 := Lib.hid (BB9.out.step bb_)
            have N_C := Lib.hid xt_
            have F_Cz := Lib.hid (tz_.below bt_)
            clear td_ tz_ hb_ xt_ bt_ bb_
            unfold tensor
            obtain ⟨x0, x1, x2, _⟩ := newTensor N_Y.out
            go_wp2_with fail
            generalize wC.alloc (Obj.cells #[.slice cva cvl cvc, .int .i64 (T.gLess d e z k s), .slice cvb cvm cvk] 33) = uC at *
            generalize wC.heap.size = gC at *
            have M := avg_gen a l c d e (some ⟨bd, 0, none⟩) m m (T.up z) k s uC F_D.out F_Y.out
            rw [HEup.out] at M
            unfold tensor at M
            refine M.mono ?_
            rintro r_ wE ⟨eva, evl, evc, evb, evm, evk, rfl, td_, tz_, hb_⟩
            have xt_ := tensor_cells wE eva evl evc (T.gLess d e (T.up z) k s) evb evm evk 33
            have bt_ := below_alloc wE (Obj.cells #[.slice eva evl evc, .int .i64 (T.gLess d e (T.up z) k s), .slice evb evm evk] 33)
            have bb_ := hb_.step bt_
            clear x0 x1 x2 M
            replace N_X := Lib.hid (blk_below N_X.out bb_)
            replace N_Y := Lib.hid (blk_below N_Y.out bb_)
            replace N_A := Lib.hid (blk_below N_A.out bb_)
            replace N_B := Lib.hid (blk_below N_B.out bb_)
            replace N_C := Lib.hid (blk_below N_C.out bb_)
            replace F_D := Lib.hid (F_D.out.below bb_)
            replace F_X := Lib.hid (F_X.out.below bb_)
            replace F_Y := Lib.hid (F_Y.out.below bb_)
            replace F_Az := Lib.hid (F_Az.out.below bb_)
            replace F_Af := Lib.hid (F_Af.out.below bb_)
            replace F_Bz := Lib.hid (F_Bz.out.below bb_)
            replace F_Bf := Lib.hid (F_Bf.out.below bb_)
            replace F_Cz := Lib.hid (F_Cz.out.below bb_)
            replace BB9 := Lib.hid (BB9.out.step bb_)
            have N_E := Lib.hid xt_
            have F_Ez := Lib.hid (tz_.below bt_)
            clear td_ tz_ hb_ xt_ bt_ bb_
            unfold tensor
            generalize hE1 : T.err d e z k s = E1 at *
            have HE1 := Lib.hid hE1
            have hE4 : E1 = 0 ∨ E1 = 2 := by
              rw [← hE1]
              unfold T.err
              rw [if_neg (show ¬ ¬ T.may d e z from fun g => g HT.out)]
              split
              · exact Or.inl rfl
              · exact Or.inr rfl
            clear hE1
            rcases hE4 with rfl | rfl
            · have hz := HE1.out
              obtain ⟨ht, hov⟩ := T.err_zero hz
              have hzu : T.err d e (T.up z) k s = 0 := HEup.out.trans rfl
              have g1 : T.gMax d e z k s = T.maxOf d z k s := by unfold T.gMax; rw [if_pos hz]
              have g2 : T.gMax d e (T.up z) k s = T.maxOf d (T.up z) k s := by unfold T.gMax; rw [if_pos hzu]
              have g3 : T.gTop d e z k s = T.topOf d z k s := by unfold T.gTop; rw [if_pos hz]
              have g4 : T.gTop d e (T.up z) k s = T.topOf d z k s := by unfold T.gTop; rw [if_pos hzu, T.topOf_up ht hov]
              have g5 : T.gSum d e z k s = T.sumOf d z k s := by unfold T.gSum; rw [if_pos hz]
              have g6 : T.gSum d e (T.up z) k s = T.sumOf d (T.up z) k s := by unfold T.gSum; rw [if_pos hzu]
              have t1 := F_Az.out
              have t2 := F_Af.out
              have t3 := F_Bz.out
              have t4 := F_Bf.out
              have t5 := F_Cz.out
              have t6 := F_Ez.out
              rw [g1] at t1
              rw [g3] at t2
              rw [g2] at t3
              rw [g4] at t4
              rw [g5] at t5
              rw [g6] at t6
              have l1 := t1.len_eq
              have l2 := t2.len_eq
              have l3 := t3.len_eq
              have l4 := t4.len_eq
              have l5 := t5.len_eq
              have l6 := t6.len_eq
              rw [T.len_tops.2.1] at l1 l3
              rw [T.len_tops.1] at l2 l4
              rw [T.len_tops.2.2] at l5 l6
              have ll1 := t1.len_le
              obtain rfl : bvm = avm := by omega
              obtain rfl : cvm = bvm := by omega
              obtain rfl : evm = cvm := by omega
              have UP1 := Lib.hid (fun j (hj : j < evm) => T.maxOf_up ht hov (j := j) (l1.symm ▸ hj))
              have UP2 := Lib.hid (fun j (hj : j < evm) => T.sumOf_up ht hov (j := j) (l1.symm ▸ hj))
              have hkb : 1 ≤ k ∧ k ≤ 5 := by
                obtain ⟨f1, f2, f3, f4, _⟩ := T.facts ht hov
                obtain ⟨_, _, k1, k2, _⟩ := outW_fit (show 1 ≤ outW (d.getD 2 0) k s 0 by omega)
                exact ⟨k1, k2⟩
              have V1 := Lib.hid t1
              have V3 := Lib.hid t3
              have V5 := Lib.hid t5
              have V6 := Lib.hid t6
              have W1 := Lib.hid t1.wf
              have W3 := Lib.hid t3.wf
              have W5 := Lib.hid t5.wf
              have W6 := Lib.hid t6.wf
              have SM := Lib.hid (refSame_eq _ _ avfc _ _ _ bvfc _ t2 t4)
              have hb2 : ((evm : Int) != (evm : Int)) = false := by simp
              clear F_Az F_Af F_Bz F_Bf F_Cz F_Ez t1 t2 t3 t4 t5 t6 l2 l3 l4 l5 l6 g1 g2 g3 g4 g5 g6 hz hzu ht hov
              go_wp2_with fail
              generalize wE.alloc (Obj.cells #[.slice eva evl evc, .int .i64 (T.gLess d e (T.up z) k s), .slice evb evm evk] 33) = uE at *
              generalize wE.heap.size = gE at *
              refine SM.out.mono ?_
              rintro e1 wx ⟨rfl, q0, rfl⟩
              obtain ⟨x0, x1, x2, _⟩ := newTensor (blk_below N_A.out (below_drewN _ q0))
              obtain ⟨y0, y1, y2, _⟩ := newTensor (blk_below N_B.out (below_drewN _ q0))
              obtain ⟨s0, s1, s2, _⟩ := newTensor (blk_below N_C.out (below_drewN _ q0))
              obtain ⟨v0, v1, v2, _⟩ := newTensor (blk_below N_E.out (below_drewN _ q0))
              go_wp2_with fail
              clear x0 x1 x2 y0 y1 y2 s0 s1 s2 v0 v1 v2
              obtain ⟨wq, hwq⟩ : ∃ wq : World, wq = uE.drewN q0 := ⟨_, rfl⟩
              have hbq := hwq ▸ below_drewN uE q0
              have P_A := Lib.hid (blk_below N_A.out hbq)
              have P_B := Lib.hid (blk_below N_B.out hbq)
              have P_C := Lib.hid (blk_below N_C.out hbq)
              have P_E := Lib.hid (blk_below N_E.out hbq)
              have Q1 := Lib.hid (V1.out.below hbq)
              have Q3 := Lib.hid (V3.out.below hbq)
              have Q5 := Lib.hid (V5.out.below hbq)
              have Q6 := Lib.hid (V6.out.below hbq)
              have B12 := Lib.hid (BB9.out.step hbq)
              rw [← hwq]
              clear hwq hbq N_A N_B N_C N_E V1 V3 V5 V6 BB9 N_X N_Y F_D F_X F_Y SM
              obtain ⟨kk, hkk⟩ : ∃ kk : Int, k * k = kk := ⟨_, rfl⟩
              have hk1 := Int.mul_le_mul hkb.2 hkb.2 (by omega) (by omega)
              have hk2 := Int.mul_nonneg (show 0 ≤ k by omega) (show 0 ≤ k by omega)
              rw [hkk] at hk1 hk2
              have hkw : IntKind.i64.wrap (k * k) = kk := by rw [hkk]; exact IntWalk.i64_in _ (by omega)
              have hkx : IntKind.i32.wrap kk = kk := IntWalk.i32_in _ (by omega)
              have HKK := Lib.hid hkk
              clear hkk
              go_loopw [148] (fun i wr => ∃ j q : Nat, j ≤ evm ∧ i = .int .i64 j ∧ wr = wq.drewN q) (fun i _ => evm - (intOf i).toNat)
              case atStart => exact ⟨0, 0, Nat.zero_le _, rfl, rfl⟩
              case round =>
                obtain ⟨j2, q2, hk2, rfl, rfl⟩ := hrel
                by_cases hlt2 : j2 < evm
                · have i1 := UP1.out j2 hlt2
                  have i2 := UP2.out j2 hlt2
                  rw [HKK.out] at i2
                  obtain ⟨x0, x1, x2, _⟩ := newTensor P_A.out
                  obtain ⟨y0, y1, y2, _⟩ := newTensor P_B.out
                  obtain ⟨s0, s1, s2, _⟩ := newTensor P_C.out
                  obtain ⟨v0, v1, v2, _⟩ := newTensor P_E.out
                  obtain ⟨p0, o0, rfl, e0⟩ := Q1.out.cells (by omega)
                  obtain ⟨p1, o1, rfl, e1⟩ := Q3.out.cells (by omega)
                  obtain ⟨p2, o2, rfl, e2⟩ := Q5.out.cells (by omega)
                  obtain ⟨p3, o3, rfl, e3⟩ := Q6.out.cells (by omega)
                  have f0 := e0 j2 hlt2
                  have f1 := e1 j2 hlt2
                  have f2 := e2 j2 hlt2
                  have f3 := e3 j2 hlt2
                  have c1 := IntWalk.i8_in _ (getD8 W3.out j2)
                  have c2 := getD32 W6.out j2
                  rw [i1] at f1 c1
                  rw [i2] at f3 c2
                  clear e0 e1 e2 e3 i1 i2
                  generalize (T.maxOf d z k s).getD j2 0 = x at *
                  generalize (T.sumOf d z k s).getD j2 0 = y at *
                  have c3 : (x + 1 != x + 1) = false := by simp
                  have c4 : (y + kk != y + kk) = false := by simp
                  go_wp2_with fail
                  go_quiet (fail)
                  go_wp2_with fail
                  go_roundw
                  case rel => exact ⟨j2 + 1, q2 + nq, by omega, by go_num, rfl⟩
                  case measure => simp [intOf]; omega
                · go_wp2_with fail
                  refine (awakeP_any _).mono ?_
                  rintro e1 w4 ⟨rfl, hb4⟩
                  go_wp2
                  go_ret
                  exact ⟨rfl, B12.out.step ((below_drewN _ _).step hb4)⟩
            · go_wp2_with fail
              refine (awakeP_any _).mono ?_
              rintro e1 w6 ⟨rfl, hb6⟩
              go_wp2
              go_ret
              exact ⟨rfl, BB9.out.step hb6⟩
end Go.Proofs.Ytaijiihlkcbdhaa
