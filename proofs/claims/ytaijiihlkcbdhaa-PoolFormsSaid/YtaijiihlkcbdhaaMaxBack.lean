/-
  The walk of MaxBack.
-/
import Derived.Test.YtaijiihlkcbdhaaPoolAll2
import Derived.Test.YtaijiihlkcbdhaaClone
import Derived.Test.YtaijiihlkcbdhaaBackPlain
import Derived.Deep.OwnRows
import Derived.Deep.DeepCutAuto
namespace Go.Proofs.Ytaijiihlkcbdhaa
open Go.RowKit
set_option linter.unusedVariables false
attribute [local go_sem ↓] Go.wp_at_zero Go.wp_at_succ
theorem infoI32 : (Try.prog.info? 21).map (fun i => (i.zero, i.size, i.bytes)) = some (some (.int .i32 0), 1, 4) := by kernel_rfl
set_option maxHeartbeats 4000000 in
/-- May it not be, or is there nothing: an argument that may not be. -/
theorem maxBack_arg (a : Option Addr) (l c : Nat) (d : List Int) (e : Int) (b : Option Addr) (m k0 : Nat) (z : List Int) (fa : Option Addr) (fl fc : Nat) (fs : List Int) (da : Option Addr) (dl dc : Nat) (ds : List Int) (w : World) (h0 : RowAt .i64 w a l d) (h1 : RowAt .i8 w b m z) (h2 : RowAt .i64 w fa fl fs) (h3 : RowAt .i64 w da dl ds)
    (hbad : ¬ T.may d e z ∨ Sh.size ds = 0) :
    Calls Try.prog 16 #[tensor a l c e b m k0, .slice fa fl fc, .slice da dl dc] w (GivesA [] 0 [] 1 w) := by
  have M := Lib.hid (fun w h0 h1 => tmay_any a l c d e b m k0 z w h0 h1)
  have S := Lib.hid (fun w h => size_any da dl dc ds w h)
  have H0 := Lib.hid h0
  have H1 := Lib.hid h1
  have H3 := Lib.hid h3
  clear h0 h1 h2 h3
  have HBad := Lib.hid hbad
  clear hbad
  obtain ⟨n, hn⟩ : ∃ n, Sh.size ds = n := ⟨_, rfl⟩
  obtain ⟨B, hB⟩ : ∃ B, decide (T.may d e z) = B := ⟨_, rfl⟩
  rw [hB] at M
  rw [hn] at S HBad
  have HB := Lib.hid hB
  clear hB hn
  unfold tensor
  unfold tensor at M
  go_enter Try.func16, Try.ntmps16
  go_wp2_with fail
  refine (S.out _ ((H3.out.below (below_alloc _ _)).below (below_alloc _ _))).mono ?_
  rintro e' w' ⟨rfl, rfl⟩
  go_wp2_with fail
  refine (M.out _ ((H0.out.below (below_alloc _ _)).below (below_alloc _ _)) ((H1.out.below (below_alloc _ _)).below (below_alloc _ _))).mono ?_
  rintro e' w2 ⟨rfl, hb⟩
  obtain ⟨z0, z1, z2, y0, y1, y2⟩ := newTensor (blk_below (heap_alloc_new (w.alloc _) _) hb)
  rw [World.size_alloc] at z0 z1 z2 y0 y1 y2
  have BB := Lib.hid (((below_alloc w _).step (below_alloc _ _)).step hb)
  clear hb M
  cases B
  · go_wp2
    refine bodyPost_ret (v := .tuple #[.agg #[.slice none 0 0, .int .i64 0, .slice none 0 0], .int .i64 1]) ?_ rfl ⟨_, _, _, _, _, _, rfl, RowAt.zero _ _ _, RowAt.zero _ _ _, ((BB.out.setCell (by show w.heap.size ≤ w.heap.size + 1; omega) _).setCell (by show w.heap.size ≤ w.heap.size + 1; omega) _).setCell (by show w.heap.size ≤ w.heap.size + 1; omega) _⟩
    simp [results, Try.results16, go_sem, z0, z1, z2]
  · have hn0 : n = 0 := HBad.out.resolve_left (fun h => h (of_decide_eq_true HB.out))
    subst hn0
    go_wp2
    refine bodyPost_ret (v := .tuple #[.agg #[.slice none 0 0, .int .i64 0, .slice none 0 0], .int .i64 1]) ?_ rfl ⟨_, _, _, _, _, _, rfl, RowAt.zero _ _ _, RowAt.zero _ _ _, ((BB.out.setCell (by show w.heap.size ≤ w.heap.size + 1; omega) _).setCell (by show w.heap.size ≤ w.heap.size + 1; omega) _).setCell (by show w.heap.size ≤ w.heap.size + 1; omega) _⟩
    simp [results, Try.results16, go_sem, z0, z1, z2]
set_option maxHeartbeats 4000000 in
theorem maxBack_shape (a : Option Addr) (l c : Nat) (d : List Int) (e : Int) (b : Option Addr) (m k0 : Nat) (z : List Int) (fa : Option Addr) (fl fc : Nat) (fs : List Int) (da : Option Addr) (dl dc : Nat) (ds : List Int) (w : World) (h0 : RowAt .i64 w a l d) (h1 : RowAt .i8 w b m z) (h2 : RowAt .i64 w fa fl fs) (h3 : RowAt .i64 w da dl ds)
    (ht : T.may d e z) (hs : Sh.size ds ≠ 0) (hlen : fs.length ≠ z.length) :
    Calls Try.prog 16 #[tensor a l c e b m k0, .slice fa fl fc, .slice da dl dc] w (GivesA [] 0 [] 2 w) := by
  have M := Lib.hid (fun w h0 h1 => (decide_eq_true ht ▸ tmay_any a l c d e b m k0 z w h0 h1 : Calls _ _ _ _ (GivesV (.bool true) w)))
  have S := Lib.hid (fun w h => size_any da dl dc ds w h)
  have H0 := Lib.hid h0
  have H1 := Lib.hid h1
  have H3 := Lib.hid h3
  rw [h2.len_eq, h1.len_eq] at hlen
  have hne : ((fl : Int) != (m : Int)) = true := by rw [bne_iff_ne]; omega
  have hfl := h2.len_le
  have hm := h1.len_le
  clear h0 h1 h2 h3 hlen
  obtain ⟨n, hn⟩ : ∃ n, Sh.size ds = n := ⟨_, rfl⟩
  rw [hn] at S hs
  have hn0 : (n == 0) = false := by simpa using hs
  clear hn hs
  unfold tensor
  unfold tensor at M
  go_enter Try.func16, Try.ntmps16
  go_wp2_with fail
  refine (S.out _ ((H3.out.below (below_alloc _ _)).below (below_alloc _ _))).mono ?_
  rintro e' w' ⟨rfl, rfl⟩
  go_wp2_with fail
  refine (M.out _ ((H0.out.below (below_alloc _ _)).below (below_alloc _ _)) ((H1.out.below (below_alloc _ _)).below (below_alloc _ _))).mono ?_
  rintro e' w2 ⟨rfl, hb⟩
  obtain ⟨z0, z1, z2, y0, y1, y2⟩ := newTensor (blk_below (heap_alloc_new (w.alloc _) _) hb)
  obtain ⟨x0, x1, x2, _, _, _⟩ := newTensor (blk_below (blk_alloc (heap_alloc_new w _) _) hb)
  rw [World.size_alloc] at z0 z1 z2 y0 y1 y2
  have BB := Lib.hid (((below_alloc w _).step (below_alloc _ _)).step hb)
  clear hb M
  go_wp2
  refine bodyPost_ret (v := .tuple #[.agg #[.slice none 0 0, .int .i64 0, .slice none 0 0], .int .i64 2]) ?_ rfl ⟨_, _, _, _, _, _, rfl, RowAt.zero _ _ _, RowAt.zero _ _ _, ((BB.out.setCell (by show w.heap.size ≤ w.heap.size + 1; omega) _).setCell (by show w.heap.size ≤ w.heap.size + 1; omega) _).setCell (by show w.heap.size ≤ w.heap.size + 1; omega) _⟩
  simp [results, Try.results16, go_sem, z0, z1, z2]
/-- The sums that are to be filled: their lengths, and noughts. -/
def AccFill (ds : List Int) (dl : Nat) (e : Int) (n : Nat) (w4 : World) (v : Value) (wx : World) : Prop := ∃ bo bl cl bd, v = .pointer (some ⟨bo, 0, none⟩) ∧ wx.heap[bo]? = some (.cells #[.slice (some ⟨bl, 0, none⟩) dl cl, .int .i64 e, .slice (some ⟨bd, 0, none⟩) n n] 33 (0, 0)) ∧
  RowAt .i64 wx (some ⟨bl, 0, none⟩) dl ds ∧ wx.ownsRow w4.heap.size 21 1 (.slice (some ⟨bd, 0, none⟩) n n) n ((T.puts n []).map (Value.int .i32)) ∧ Below w4.heap.size w4 wx ∧ w4.heap.size ≤ bo ∧ w4.heap.size ≤ bl ∧ w4.heap.size ≤ bd ∧ bl ≠ bo ∧ bd ≠ bo ∧ bd ≠ bl
theorem made32 (n : Nat) : (madeCells #[Value.int IntKind.i32 0] n).toList = (T.puts n []).map (Value.int .i32) := by
  rw [toList_madeCells_one]
  apply List.ext_getElem
  · simp [T.puts]
  · intro i h1 h2
    simp [T.puts]
theorem heap4 (w : World) (o1 o2 o3 o4 : Obj) : let wx := (((w.alloc o1).alloc o2).alloc o3).alloc o4; wx.heap[w.heap.size]? = some o1 ∧ wx.heap[w.heap.size + 1]? = some o2 ∧ wx.heap[w.heap.size + 1 + 1]? = some o3 ∧ wx.heap[w.heap.size + 1 + 1 + 1]? = some o4 ∧ Below w.heap.size w wx := by
  refine ⟨blk_alloc (blk_alloc (blk_alloc (heap_alloc_new w o1) _) _) _, ?_, ?_, ?_, (((below_alloc w _).step (below_alloc _ _)).step (below_alloc _ _)).step (below_alloc _ _)⟩
  · have := heap_alloc_new (w.alloc o1) o2
    rw [World.size_alloc] at this
    exact blk_alloc (blk_alloc this _) _
  · have := heap_alloc_new ((w.alloc o1).alloc o2) o3
    rw [World.size_alloc, World.size_alloc] at this
    exact blk_alloc this _
  · have := heap_alloc_new (((w.alloc o1).alloc o2).alloc o3) o4
    rw [World.size_alloc, World.size_alloc, World.size_alloc] at this
    exact this
theorem AccFill.of {da : Option Addr} {ds : List Int} {dl : Nat} {e : Int} {n : Nat} {w4 wx : World} {bo bl bd cl : Nat} {cs : Array Value} (ho : wx.heap[bo]? = some (.cells #[.slice (some ⟨bl, 0, none⟩) dl cl, .int .i64 e, .slice (some ⟨bd, 0, none⟩) n n] 33 (0, 0)))
    (hl : wx.heap[bl]? = some (.cells cs 3 (0, 0))) (hd : wx.heap[bd]? = some (.cells (madeCells #[Value.int IntKind.i32 0] n) 21 (0, 0))) (hcs : ∀ j, j < dl → cs[j]? = some (.int .i64 (ds.getD j 0))) (hb : Below w4.heap.size w4 wx)
    (hds : RowAt .i64 w4 da dl ds) (hn : n ≤ 8192) (h1 : w4.heap.size ≤ bo) (h2 : w4.heap.size ≤ bl) (h3 : w4.heap.size ≤ bd) (h4 : bl ≠ bo) (h5 : bd ≠ bo) (h6 : bd ≠ bl) : AccFill ds dl e n w4 (.pointer (some ⟨bo, 0, none⟩)) wx := by
  refine ⟨bo, bl, cl, bd, rfl, ho, ⟨hds.1, hds.2.1, hds.2.2.1, Or.inr ⟨bl, 0, rfl, fun j hj => ?_⟩⟩, ⟨by simp [T.length_puts], Or.inr ⟨bd, n, _, rfl, h3, hd, Nat.le_refl _, by unfold maxLen; omega, by rw [size_madeCells]; simp, ?_⟩⟩, hb, h1, h2, h3, h4, h5, h6⟩
  · unfold World.cell?
    simp only [hl]
    rw [Nat.zero_add]
    exact hcs j hj
  · rw [made32, List.take_of_length_le (by simp [T.length_puts])]
theorem RowAt.alloc1 {k : IntKind} {w : World} {a : Option Addr} {len : Nat} {zs : List Int} (h : RowAt k w a len zs) (o : Obj) : RowAt k (w.alloc o) a len zs := h.below (below_alloc w o)
theorem cell_alloc1 {w : World} {p : Addr} {v : Value} (h : w.cell? p = some v) (o : Obj) : (w.alloc o).cell? p = some v := (below_alloc w o).cell_of h
theorem cell_drew1 {w : World} {p : Addr} {v : Value} (h : w.cell? p = some v) : w.drew.cell? p = some v := h
theorem RowAt.drew1 {k : IntKind} {w : World} {a : Option Addr} {len : Nat} {zs : List Int} (h : RowAt k w a len zs) : RowAt k w.drew a len zs := h.draws 1
set_option maxRecDepth 100000 in
set_option maxHeartbeats 8000000 in
theorem maxBack_yes (a : Option Addr) (l c : Nat) (d : List Int) (e : Int) (b : Option Addr) (m k0 : Nat) (z : List Int) (fa : Option Addr) (fc : Nat) (fs : List Int) (da : Option Addr) (dl dc : Nat) (ds : List Int) (n : Nat) (w : World) (h0 : RowAt .i64 w a l d) (h1 : RowAt .i8 w b m z) (h2 : RowAt .i64 w fa m fs) (h3 : RowAt .i64 w da dl ds)
    (ht : T.may d e z) (hs : Sh.size ds = n) (hn0 : 0 < n) (hn1 : n ≤ 8192) (hdl : 0 < dl ∧ dl ≤ 4) (hm8 : m ≤ 8192) :
    Calls Try.prog 16 #[tensor a l c e b m k0, .slice fa m fc, .slice da dl dc] w (if T.inAll fs n then GivesA ds e (T.puts n (T.pairs fs z m)) 0 w else GivesA [] 0 [] 1 w) := by
  have M := Lib.hid (fun w h0 h1 => (decide_eq_true ht ▸ tmay_any a l c d e b m k0 z w h0 h1 : Calls _ _ _ _ (GivesV (.bool true) w)))
  have S := Lib.hid (fun w h => size_any da dl dc ds w h)
  rw [hs] at S
  have H0 := Lib.hid h0
  have H1 := Lib.hid h1
  have H2 := Lib.hid h2
  have H3 := Lib.hid h3
  have HT := Lib.hid ht
  have CL := Lib.hid (fun w h => clone_any da dl dc ds w h hdl.1 (by omega))
  have hn2 : ((n : Int) == 0) = false := by rw [beq_eq_false_iff_ne]; omega
  have hmm : ((m : Int) != (m : Int)) = false := by simp
  clear h0 h1 h2 h3 ht hs
  obtain ⟨PP, hPP⟩ : ∃ PP, (if T.inAll fs n then GivesA ds e (T.puts n (T.pairs fs z m)) 0 w else GivesA [] 0 [] 1 w) = PP := ⟨_, rfl⟩
  rw [hPP]
  have HPP := Lib.hid hPP
  clear hPP
  unfold tensor
  unfold tensor at M
  go_enter Try.func16, Try.ntmps16
  go_wp2_with fail
  refine (S.out _ ((H3.out.below (below_alloc _ _)).below (below_alloc _ _))).mono ?_
  rintro e' w' ⟨rfl, rfl⟩
  go_wp2_with fail
  refine (M.out _ ((H0.out.below (below_alloc _ _)).below (below_alloc _ _)) ((H1.out.below (below_alloc _ _)).below (below_alloc _ _))).mono ?_
  rintro e' w4 ⟨rfl, hb⟩
  have HR4 := Lib.hid (blk_below (heap_alloc_new (w.alloc _) _) hb)
  have HX4 := Lib.hid (blk_below (blk_alloc (heap_alloc_new w _) _) hb)
  rw [World.size_alloc] at HR4
  have B4 := Lib.hid (((below_alloc w _).step (below_alloc _ _)).step hb)
  have H34 := Lib.hid (H3.out.below B4.out)
  obtain ⟨x0, x1, x2, _, _, _⟩ := newTensor HX4.out
  have hlt4 : w.heap.size + 1 < w4.heap.size := lt_of_block HR4.out
  clear hb M S
  go_upto_region 6 with fail
  have hmk := fun w : World => run_make_row' (P := Try.prog) 31 21 (.int .i32 0) 4 Try.underlying31 infoI32 rfl .i64 .i64 n (by omega) (by omega) w
  go_cut [9] (fun s9 wx => AccFill ds dl e n w4 s9 wx)
  case first =>
    go_region_held3 (fun w' => w'.cell? ⟨w.heap.size, 1, none⟩ = some (.int .i64 e)) (first | ((repeat (first | assumption | refine cell_alloc1 ?_ _ | refine cell_drew1 ?_)); done) | go_keep)
      (first | (go_at_call 34; ((refine (CL.out _ (by repeat (first | exact H34.out | refine RowAt.alloc1 ?_ _ | refine RowAt.drew1 ?_))).mono ?_); rintro e7 w7 ⟨cc, cs, rfl, rfl, hcs⟩)))
    all_goals
      go_wp2_with fail
      go_meet
    · obtain ⟨p1, p2, p3, p4, pb⟩ := heap4 w4 _ _ _ _
      exact AccFill.of p4 p2 p3 hcs (pb.draws 2) H34.out hn1 (by omega) (by omega) (by omega) (by omega) (by omega) (by omega)
    · obtain ⟨p1, p2, p3, p4, pb⟩ := heap4 w4 _ _ _ _
      exact AccFill.of p3 p2 p4 hcs (pb.draws 2) H34.out hn1 (by omega) (by omega) (by omega) (by omega) (by omega) (by omega)
    · obtain ⟨p1, p2, p3, p4, pb⟩ := heap4 w4 _ _ _ _
      exact AccFill.of p4 p3 p1 hcs (pb.draws 2) H34.out hn1 (by omega) (by omega) (by omega) (by omega) (by omega) (by omega)
    · obtain ⟨p1, p2, p3, p4, pb⟩ := heap4 w4 _ _ _ _
      exact AccFill.of p2 p4 p1 hcs (pb.draws 2) H34.out hn1 (by omega) (by omega) (by omega) (by omega) (by omega) (by omega)
    · obtain ⟨p1, p2, p3, p4, pb⟩ := heap4 w4 _ _ _ _
      exact AccFill.of p1 p3 p4 hcs (pb.draws 2) H34.out hn1 (by omega) (by omega) (by omega) (by omega) (by omega) (by omega)
    · obtain ⟨p1, p2, p3, p4, pb⟩ := heap4 w4 _ _ _ _
      exact AccFill.of p1 p4 p2 hcs (pb.draws 2) H34.out hn1 (by omega) (by omega) (by omega) (by omega) (by omega) (by omega)
  case rest =>
    obtain ⟨bo, bl, cl, bd, rfl, ho, hrl, hown, hb5, g1, g2, g3, g4, g5, g6⟩ := hcut
    have HO5 := Lib.hid ho
    have HD5 := Lib.hid hown
    have HL5 := Lib.hid hrl
    have HB5 := Lib.hid hb5
    have hbo2 : w.heap.size + 1 < bo := by omega
    clear x0 x1 x2 ho hown hrl hb5 hmk CL
    go_wp2_with fail
    obtain ⟨w5, rfl⟩ : ∃ w5 : World, w5 = wc := ⟨_, rfl⟩
    go_loopw [40] (fun i wr => ∃ j : Nat, j ≤ m ∧ i = .int .i64 j ∧ wr.ownsRow w4.heap.size 21 1 (.slice (some ⟨bd, 0, none⟩) n n) n ((T.puts n (T.pairs fs z j)).map (Value.int .i32)) ∧ Below w4.heap.size w4 wr ∧ wr.heap[bo]? = some (.cells #[.slice (some ⟨bl, 0, none⟩) dl cl, .int .i64 e, .slice (some ⟨bd, 0, none⟩) n n] 33 (0, 0)) ∧ RowAt .i64 wr (some ⟨bl, 0, none⟩) dl ds ∧ ∀ x, x < j → 0 ≤ fs.getD x 0 ∧ fs.getD x 0 < n) (fun i _ => m - (intOf i).toNat)
    case atStart => exact ⟨0, Nat.zero_le _, rfl, HD5.out, HB5.out, HO5.out, HL5.out, fun x hx => by omega⟩
    case round =>
      obtain ⟨j, hj, rfl, hown, hbel, hblk, hrl, hs⟩ := hrel
      have HOwn := Lib.hid hown
      have HBel := Lib.hid hbel
      have HBlk := Lib.hid hblk
      have HRl := Lib.hid hrl
      have HS := Lib.hid hs
      clear hs hrl
      by_cases hlt : j < m
      · obtain ⟨x0, x1, x2, _⟩ := newTensor (blk_below HX4.out hbel)
        obtain ⟨r0, r1, r2, r3, r4, r5⟩ := newTensor (blk_below HR4.out hbel)
        obtain ⟨y0, y1, y2, _⟩ := newTensor hblk
        obtain ⟨p0, o0, rfl, e0⟩ := ((H2.out.below B4.out).below hbel).cells (by omega)
        obtain ⟨p1, o1, rfl, e1⟩ := ((H1.out.below B4.out).below hbel).cells (by omega)
        have f0 := e0 j hlt
        have f1 := e1 j hlt
        have hjl : j < fs.length := by rw [H2.out.len_eq]; exact hlt
        have HMem := Lib.hid (show fs.getD j 0 ∈ fs by simp [List.getD, List.getElem?_eq_getElem hjl])
        have hv := getD8 H1.out.wf j
        have HSn := Lib.hid (T.pairs_succ fs z j)
        have HBd := Lib.hid (T.puts_bound n (T.pairs fs z j) (T.pairs_bound H1.out.wf j))
        rw [T.length_pairs] at HBd
        clear e0 e1 hbel hblk hjl
        generalize hX : fs.getD j 0 = f at *
        generalize hY : z.getD j 0 = v at *
        have HX := Lib.hid hX
        clear hX hY
        have HBB := Lib.hid (B4.out.step HBel.out)
        by_cases c1 : f < 0
        · have c3 : decide (f < 0) = true := decide_eq_true c1
          go_wp2_with fail
          refine bodyPost_ret (v := .tuple #[.agg #[.slice none 0 0, .int .i64 0, .slice none 0 0], .int .i64 1]) ?_ rfl ?_
          · obtain ⟨t0, t1, t2, _, _, _⟩ := newTensor (store3 (a := .slice none 0 0) (b := .int .i64 0) (c := .slice none 0 0) (blk_below HR4.out HBel.out))
            simp [results, Try.results16, go_sem, t0, t1, t2]
          · rw [← HPP.out, if_neg (fun h => by have := (h _ HMem.out).1; omega)]
            exact ⟨_, _, _, _, _, _, rfl, RowAt.zero _ _ _, RowAt.zero _ _ _, ((HBB.out.setCell (by show w.heap.size ≤ w.heap.size + 1; omega) _).setCell (by show w.heap.size ≤ w.heap.size + 1; omega) _).setCell (by show w.heap.size ≤ w.heap.size + 1; omega) _⟩
        · have c3 : decide (f < 0) = false := decide_eq_false c1
          by_cases c2 : f < n
          · obtain ⟨q, rfl⟩ : ∃ q : Nat, f = q := ⟨f.toNat, by omega⟩
            have hq : q < n := by omega
            have c4 : decide ((n : Int) ≤ q) = false := decide_eq_false (by omega)
            have f2 := hown.cellAt q (by omega)
            have f3 := hown.frozenAt q
            rw [List.getElem?_map, List.getElem?_eq_getElem (by rw [T.length_puts]; omega), Option.map_some] at f2
            have hg : (T.puts n (T.pairs fs z j))[q]'(by rw [T.length_puts]; omega) = (T.puts n (T.pairs fs z j)).getD q 0 := by
              have : q < (T.puts n (T.pairs fs z j)).length := by rw [T.length_puts]; omega
              simp [List.getD, List.getElem?_eq_getElem this]
            rw [hg] at f2
            have hu := HBd.out q
            have hset : T.puts n (T.pairs fs z (j + 1)) = (T.puts n (T.pairs fs z j)).set q ((T.puts n (T.pairs fs z j)).getD q 0 + v) := by
              rw [HSn.out, T.puts_snoc]
              rfl
            have HSet := Lib.hid hset
            clear hg hset hown
            generalize (T.puts n (T.pairs fs z j)).getD q 0 = u at *
            have c5 : IntKind.i32.wrap (u + v) = u + v := IntWalk.i32_in _ (by omega)
            have c6 : IntKind.i32.wrap v = v := IntWalk.i32_in _ (by omega)
            go_wp2_with fail
            have i1 : (0 : Int) ≤ (q : Int) := by omega
            have i2 : (q : Int) < (n : Int) := by omega
            have i3 : (0 : Int) ≤ (j : Int) := by omega
            have i4 : (j : Int) < (m : Int) := by omega
            go_region
            go_wp2_with fail
            go_roundw
            case rel =>
              refine ⟨j + 1, by omega, by go_num, ?_, (HBel.out.setCell g3 _).draws 1, ?_, ?_, fun y hy => ?_⟩
              · have := (HOwn.out.stored q (.int .i32 (u + v))).1
                rw [← List.map_set, ← HSet.out] at this
                exact this.drew
              · exact (Below.heap_setCell _ _ _ _ (fun e => g5 e.symm)).trans HBlk.out
              · exact (HRl.out.setCell _ (fun x hx => by cases hx; exact fun e => g6 e.symm)).drew1
              · by_cases c : y = j
                · subst c; rw [HX.out]; omega
                · exact HS.out y (by omega)
            case measure => simp [intOf]; omega
          · have c4 : decide ((n : Int) ≤ f) = true := decide_eq_true (by omega)
            go_wp2_with fail
            refine bodyPost_ret (v := .tuple #[.agg #[.slice none 0 0, .int .i64 0, .slice none 0 0], .int .i64 1]) ?_ rfl ?_
            · obtain ⟨t0, t1, t2, _, _, _⟩ := newTensor (store3 (a := .slice none 0 0) (b := .int .i64 0) (c := .slice none 0 0) (blk_below HR4.out HBel.out))
              simp [results, Try.results16, go_sem, t0, t1, t2]
            · rw [← HPP.out, if_neg (fun h => by have := (h _ HMem.out).2; omega)]
              exact ⟨_, _, _, _, _, _, rfl, RowAt.zero _ _ _, RowAt.zero _ _ _, ((HBB.out.setCell (by show w.heap.size ≤ w.heap.size + 1; omega) _).setCell (by show w.heap.size ≤ w.heap.size + 1; omega) _).setCell (by show w.heap.size ≤ w.heap.size + 1; omega) _⟩
      · obtain rfl : m = j := by omega
        obtain ⟨r0, r1, r2, r3, r4, r5⟩ := newTensor (blk_below HR4.out hbel)
        obtain ⟨y0, y1, y2, _⟩ := newTensor hblk
        have HBB := Lib.hid (B4.out.step HBel.out)
        clear hown hbel hblk
        have hall : T.inAll fs n := fun x hx => by
          obtain ⟨i, hi, e⟩ := List.getElem_of_mem hx
          have := HS.out i (by rw [← H2.out.len_eq]; exact hi)
          rw [show fs.getD i 0 = x by simp [List.getD, List.getElem?_eq_getElem hi, e]] at this
          exact this
        have hwf := T.puts_wf n (T.pairs fs z m) (T.pairs_bound H1.out.wf m) (by rw [T.length_pairs]; omega)
        have HO := Lib.hid (RowAt.owned HOwn.out hwf (by omega))
        have HP2 := Lib.hid (HPP.out)
        rw [if_pos hall] at HP2
        clear hall hwf
        go_wp2_with fail
        refine bodyPost_ret (v := .tuple #[.agg #[.slice (some ⟨bl, 0, none⟩) dl cl, .int .i64 e, .slice (some ⟨bd, 0, none⟩) n n], .int .i64 0]) ?_ rfl ?_
        · obtain ⟨t0, t1, t2, _, _, _⟩ := newTensor (store3 (a := .slice (some ⟨bl, 0, none⟩) dl cl) (b := .int .i64 e) (c := .slice (some ⟨bd, 0, none⟩) n n) (blk_below HR4.out HBel.out))
          simp [results, Try.results16, go_sem, t0, t1, t2]
        · rw [← HP2.out]
          refine ⟨_, _, _, _, _, _, rfl, HRl.out.set3 (fun x hx => by cases hx; show bl ≠ w.heap.size + 1; omega), HO.out.set3 (fun x hx => by cases hx; show bd ≠ w.heap.size + 1; omega), ((HBB.out.setCell (by show w.heap.size ≤ w.heap.size + 1; omega) _).setCell (by show w.heap.size ≤ w.heap.size + 1; omega) _).setCell (by show w.heap.size ≤ w.heap.size + 1; omega) _⟩
end Go.Proofs.Ytaijiihlkcbdhaa
