/-
  The walk of the reference's MaxBack.
-/
import Derived.Test.YtaijiihlkcbdhaaRefWindow
import Derived.Test.YtaijiihlkcbdhaaBackGen
namespace Go.Proofs.Ytaijiihlkcbdhaa
open Go.RowKit
set_option linter.unusedVariables false
attribute [local go_sem ↓] Go.wp_at_zero Go.wp_at_succ
/-- Three blocks that are laid. -/
theorem box3 (w : World) (T Z U : Obj) : (((w.alloc T).alloc Z).alloc U).heap[w.heap.size]? = some T ∧ (((w.alloc T).alloc Z).alloc U).heap[w.heap.size + 1]? = some Z ∧ (((w.alloc T).alloc Z).alloc U).heap[w.heap.size + 1 + 1]? = some U ∧ Below w.heap.size w (((w.alloc T).alloc Z).alloc U) := by
  refine ⟨blk_alloc (blk_alloc (heap_alloc_new w _) _) _, ?_, ?_, ((below_alloc w _).step (below_alloc _ _)).step (below_alloc _ _)⟩
  · have := heap_alloc_new (w.alloc T) Z
    rw [World.size_alloc] at this
    exact blk_alloc this _
  · have := heap_alloc_new ((w.alloc T).alloc Z) U
    rw [World.size_alloc, World.size_alloc] at this
    exact this
theorem cell_realloc {w : World} {o o' : Obj} {p : Addr} {v : Value} (h : (w.alloc o).cell? p = some v) (hp : p.block < w.heap.size) : (w.alloc o').cell? p = some v :=
  (below_alloc w o').cell_of (((below_alloc w o).cell (p := p) hp).symm.trans h)
theorem cell_set3 {w : World} {p : Addr} {v x y z : Value} {g : Nat} (h : w.cell? p = some v) (hp : p.block ≠ g) : (((w.setCell ⟨g, 0, none⟩ x).setCell ⟨g, 1, none⟩ y).setCell ⟨g, 2, none⟩ z).cell? p = some v := by
  have e (o : Nat) : (⟨g, o, none⟩ : Addr) ≠ p := fun e => hp (congrArg Addr.block e).symm
  exact (World.cell?_setCell_other _ _ _ _ (e 2)).trans ((World.cell?_setCell_other _ _ _ _ (e 1)).trans ((World.cell?_setCell_other _ _ _ _ (e 0)).trans h))
theorem bcell {W w1 : World} (hb : Below W.heap.size W w1) : (∀ b o, b < W.heap.size → w1.cell? ⟨b, o, none⟩ = W.cell? ⟨b, o, none⟩) ∧ (∀ b o, b < W.heap.size → w1.frozen? ⟨b, o, none⟩ = W.frozen? ⟨b, o, none⟩) :=
  ⟨fun b o h => hb.cell (p := ⟨b, o, none⟩) h, fun b o h => hb.frozen (p := ⟨b, o, none⟩) h⟩
theorem grownNone {W w1 : World} (h : W.grownBy w1 none) : Below W.heap.size W w1 := ⟨h.os, h.tape, h.output, h.size, fun k hk => h.block k hk (by simp)⟩
theorem owned_base {w : World} {base base' e size n : Nat} {v : Value} {xs : List Value} (h : w.ownsRow base e size v n xs) (hB : base' ≤ base) : w.ownsRow base' e size v n xs :=
  ⟨h.1, h.2.imp id fun ⟨g, cap, cur, hv, hg, r⟩ => ⟨g, cap, cur, hv, Nat.le_trans hB hg, r⟩⟩
theorem owned_set3 {w : World} {base e size n g cap b : Nat} {xs : List Value} {x y z : Value} (h : w.ownsRow base e size (.slice (some ⟨g, 0, none⟩) n cap) n xs) (hg : g ≠ b) :
    (((w.setCell ⟨b, 0, none⟩ x).setCell ⟨b, 1, none⟩ y).setCell ⟨b, 2, none⟩ z).ownsRow base e size (.slice (some ⟨g, 0, none⟩) n cap) n xs := by
  have e (o : Nat) : (Value.slice (some ⟨g, 0, none⟩) n cap).ownBlock ≠ some (⟨b, o, none⟩ : Addr).block := fun h => hg (by injection h)
  exact ownsRow_setCell_other (ownsRow_setCell_other (ownsRow_setCell_other h (e 0) x) (e 1) y) (e 2) z
theorem AccFill.fin {w' wx : World} {ds : List Int} {dl cap1 n g1 gr bo B1 : Nat} {e : Int} (hX : wx.heap[bo]? = some (.cells #[.slice (some ⟨g1, 0, none⟩) dl cap1, .int .i64 e, .slice (some ⟨gr, 0, none⟩) n n] 33 (0, 0))) (hr : RowAt .i64 wx (some ⟨g1, 0, none⟩) dl ds)
    (ho : wx.ownsRow B1 21 1 (.slice (some ⟨gr, 0, none⟩) n n) n ((T.puts n []).map (Value.int .i32))) (hb : Below w'.heap.size w' wx) (h1 : w'.heap.size ≤ bo) (h2 : w'.heap.size ≤ g1) (h3 : g1 < B1) (h5 : g1 ≠ bo) (h6 : gr ≠ bo) :
    AccFill ds dl e n w' (.pointer (some ⟨bo, 0, none⟩)) wx := by
  have h7 := (ho.lt gr rfl).1
  exact ⟨bo, g1, cap1, gr, rfl, hX, hr, owned_base ho (by omega), hb, h1, h2, by omega, h5, h6, by omega⟩
set_option maxHeartbeats 4000000 in
theorem refMaxBack_arg (a : Option Addr) (l c : Nat) (d : List Int) (e : Int) (b : Option Addr) (m k0 : Nat) (z : List Int) (fa : Option Addr) (fl fc : Nat) (fs : List Int) (da : Option Addr) (dl dc : Nat) (ds : List Int) (w : World) (h0 : RowAt .i64 w a l d) (h1 : RowAt .i8 w b m z) (h2 : RowAt .i64 w fa fl fs) (h3 : RowAt .i64 w da dl ds)
    (hbad : ¬ T.may d e z ∨ Sh.size ds = 0) :
    Calls Try.prog 20 #[tensor a l c e b m k0, .slice fa fl fc, .slice da dl dc] w (GivesA [] 0 [] 1 w) := by
  have M := Lib.hid (fun g w hg h0 h1 => refMayOne a l c d e b m k0 z g w hg h0 h1)
  have S := Lib.hid (fun w h => refMay_still da dl dc ds w h)
  obtain ⟨q1, q2, q3, q4⟩ := box3 w (Obj.cells #[.slice a l c, .int .i64 e, .slice b m k0] 25) (Obj.cells #[.slice none 0 0, .int .i64 0, .slice none 0 0] 33) (Obj.cells #[.slice a l c, .int .i64 e, .slice b m k0] 25)
  have Q2 := Lib.hid q2
  have Q3 := Lib.hid q3
  have Q4 := Lib.hid q4
  have H0 := Lib.hid (h0.below q4)
  have H1 := Lib.hid (h1.below q4)
  have H3 := Lib.hid (h3.below q4)
  clear h0 h1 h2 h3 q1 q2 q3 q4
  have HBad := Lib.hid hbad
  clear hbad
  obtain ⟨N, hN⟩ : ∃ N, decide (0 < Sh.size ds) = N := ⟨_, rfl⟩
  obtain ⟨B, hB⟩ : ∃ B, decide (T.may d e z) = B := ⟨_, rfl⟩
  rw [hB] at M
  rw [hN] at S
  have HB := Lib.hid hB
  have HN := Lib.hid hN
  clear hB hN
  unfold tensor
  go_enter Try.func20, Try.ntmps20
  go_wp2_with fail
  refine (M.out _ _ Q3.out H0.out H1.out).mono ?_
  rintro e' w4 ⟨rfl, hb⟩
  have HZ4 := Lib.hid (blk_below Q2.out hb)
  have B4 := Lib.hid (Q4.out.step hb)
  have H34 := Lib.hid (H3.out.below hb)
  clear hb M
  obtain ⟨r0, r1, r2, r3, r4, r5⟩ := newTensor HZ4.out
  cases B
  · go_wp2_with fail
    refine bodyPost_ret (v := .tuple #[.agg #[.slice none 0 0, .int .i64 0, .slice none 0 0], .int .i64 1]) ?_ rfl ⟨_, _, _, _, _, _, rfl, RowAt.zero _ _ _, RowAt.zero _ _ _, ((B4.out.setCell (by show w.heap.size ≤ w.heap.size + 1; omega) _).setCell (by show w.heap.size ≤ w.heap.size + 1; omega) _).setCell (by show w.heap.size ≤ w.heap.size + 1; omega) _⟩
    obtain ⟨t0, t1, t2, _, _, _⟩ := newTensor (store3 (a := .slice none 0 0) (b := .int .i64 0) (c := .slice none 0 0) HZ4.out)
    simp [results, Try.results20, go_sem, t0, t1, t2]
  · obtain rfl : N = false := by
      rw [← HN.out]
      refine decide_eq_false fun h => ?_
      rcases HBad.out with g | g
      · exact g (of_decide_eq_true HB.out)
      · omega
    go_wp2_with fail
    refine (S.out _ H34.out).mono ?_
    rintro e' w' ⟨rfl, rfl⟩
    go_wp2_with fail
    refine bodyPost_ret (v := .tuple #[.agg #[.slice none 0 0, .int .i64 0, .slice none 0 0], .int .i64 1]) ?_ rfl ⟨_, _, _, _, _, _, rfl, RowAt.zero _ _ _, RowAt.zero _ _ _, ((B4.out.setCell (by show w.heap.size ≤ w.heap.size + 1; omega) _).setCell (by show w.heap.size ≤ w.heap.size + 1; omega) _).setCell (by show w.heap.size ≤ w.heap.size + 1; omega) _⟩
    obtain ⟨t0, t1, t2, _, _, _⟩ := newTensor (store3 (a := .slice none 0 0) (b := .int .i64 0) (c := .slice none 0 0) HZ4.out)
    simp [results, Try.results20, go_sem, t0, t1, t2]
set_option maxHeartbeats 4000000 in
theorem refMaxBack_shape (a : Option Addr) (l c : Nat) (d : List Int) (e : Int) (b : Option Addr) (m k0 : Nat) (z : List Int) (fa : Option Addr) (fl fc : Nat) (fs : List Int) (da : Option Addr) (dl dc : Nat) (ds : List Int) (w : World) (h0 : RowAt .i64 w a l d) (h1 : RowAt .i8 w b m z) (h2 : RowAt .i64 w fa fl fs) (h3 : RowAt .i64 w da dl ds)
    (ht : T.may d e z) (hs : 0 < Sh.size ds) (hlen : fs.length ≠ z.length) :
    Calls Try.prog 20 #[tensor a l c e b m k0, .slice fa fl fc, .slice da dl dc] w (GivesA [] 0 [] 2 w) := by
  have M := Lib.hid (fun g w hg h0 h1 => (decide_eq_true ht ▸ refMayOne a l c d e b m k0 z g w hg h0 h1 : Calls _ _ _ _ (GivesV (.bool true) w)))
  have S := Lib.hid (fun w h => (decide_eq_true hs ▸ refMay_still da dl dc ds w h : Calls _ _ _ _ (fun e w' => e = .returned (.bool true) ∧ w' = w)))
  obtain ⟨q1, q2, q3, q4⟩ := box3 w (Obj.cells #[.slice a l c, .int .i64 e, .slice b m k0] 25) (Obj.cells #[.slice none 0 0, .int .i64 0, .slice none 0 0] 33) (Obj.cells #[.slice a l c, .int .i64 e, .slice b m k0] 25)
  have Q1 := Lib.hid q1
  have Q2 := Lib.hid q2
  have Q3 := Lib.hid q3
  have Q4 := Lib.hid q4
  have H0 := Lib.hid (h0.below q4)
  have H1 := Lib.hid (h1.below q4)
  have H3 := Lib.hid (h3.below q4)
  have c1 : ((fl : Int) != (m : Int)) = true := by
    rw [bne_iff_ne]
    rw [h2.len_eq, h1.len_eq] at hlen
    omega
  have hfl := h2.len_le
  have hml := h1.len_le
  clear h0 h1 h2 h3 q1 q2 q3 q4 ht hs hlen
  unfold tensor
  go_enter Try.func20, Try.ntmps20
  go_wp2_with fail
  refine (M.out _ _ Q3.out H0.out H1.out).mono ?_
  rintro e' w4 ⟨rfl, hb⟩
  have HX4 := Lib.hid (blk_below Q1.out hb)
  have HZ4 := Lib.hid (blk_below Q2.out hb)
  have B4 := Lib.hid (Q4.out.step hb)
  have H34 := Lib.hid (H3.out.below hb)
  clear hb M
  obtain ⟨r0, r1, r2, r3, r4, r5⟩ := newTensor HZ4.out
  obtain ⟨x0, x1, x2, _⟩ := newTensor HX4.out
  go_wp2_with fail
  refine (S.out _ H34.out).mono ?_
  rintro e' w' ⟨rfl, rfl⟩
  go_wp2_with fail
  refine bodyPost_ret (v := .tuple #[.agg #[.slice none 0 0, .int .i64 0, .slice none 0 0], .int .i64 2]) ?_ rfl ⟨_, _, _, _, _, _, rfl, RowAt.zero _ _ _, RowAt.zero _ _ _, ((B4.out.setCell (by show w.heap.size ≤ w.heap.size + 1; omega) _).setCell (by show w.heap.size ≤ w.heap.size + 1; omega) _).setCell (by show w.heap.size ≤ w.heap.size + 1; omega) _⟩
  obtain ⟨t0, t1, t2, _, _, _⟩ := newTensor (store3 (a := .slice none 0 0) (b := .int .i64 0) (c := .slice none 0 0) HZ4.out)
  simp [results, Try.results20, go_sem, t0, t1, t2]
set_option maxRecDepth 100000 in
set_option maxHeartbeats 8000000 in
theorem refMaxBack_yes (a : Option Addr) (l c : Nat) (d : List Int) (e : Int) (b : Option Addr) (m k0 : Nat) (z : List Int) (fa : Option Addr) (fc : Nat) (fs : List Int) (da : Option Addr) (dl dc : Nat) (ds : List Int) (n : Nat) (w : World) (h0 : RowAt .i64 w a l d) (h1 : RowAt .i8 w b m z) (h2 : RowAt .i64 w fa m fs) (h3 : RowAt .i64 w da dl ds)
    (ht : T.may d e z) (hs : Sh.size ds = n) (hn0 : 0 < n) (hn1 : n ≤ 8192) (hdl : 0 < dl ∧ dl ≤ 4) (hm8 : m ≤ 8192) :
    Calls Try.prog 20 #[tensor a l c e b m k0, .slice fa m fc, .slice da dl dc] w (if T.inAll fs n then GivesA ds e (T.puts n (T.pairs fs z m)) 0 w else GivesA [] 0 [] 1 w) := by
  have M := Lib.hid (fun g w hg h0 h1 => (decide_eq_true ht ▸ refMayOne a l c d e b m k0 z g w hg h0 h1 : Calls _ _ _ _ (GivesV (.bool true) w)))
  have hs1 : 0 < Sh.size ds := by omega
  have S := Lib.hid (fun w h => (decide_eq_true hs1 ▸ refMay_still da dl dc ds w h : Calls _ _ _ _ (fun e w' => e = .returned (.bool true) ∧ w' = w)))
  obtain ⟨q1, q2, q3, q4⟩ := box3 w (Obj.cells #[.slice a l c, .int .i64 e, .slice b m k0] 25) (Obj.cells #[.slice none 0 0, .int .i64 0, .slice none 0 0] 33) (Obj.cells #[.slice a l c, .int .i64 e, .slice b m k0] 25)
  have Q1 := Lib.hid q1
  have Q2 := Lib.hid q2
  have Q3 := Lib.hid q3
  have Q4 := Lib.hid q4
  have G0 := Lib.hid (h0.below q4)
  have G1 := Lib.hid (h1.below q4)
  have G3 := Lib.hid (h3.below q4)
  have he := ht.2.2.1
  have AC := Lib.hid (fun ga cp w h => refAcc_yes (some ⟨ga, 0, none⟩) dl cp ds e n w h (by omega) hs hn0 hn1)
  have H0 := Lib.hid h0
  have H1 := Lib.hid h1
  have H2 := Lib.hid h2
  have H3 := Lib.hid h3
  have HT := Lib.hid ht
  have hmm : ((m : Int) != (m : Int)) = false := by simp
  obtain ⟨pa, oa, rfl, _⟩ := h3.cells hdl.1
  have hdll := Lib.hid h3.len_eq
  have hwf := Lib.hid h3.wf
  clear h0 h1 h2 h3 ht hs hs1 q1 q2 q3 q4
  obtain ⟨PP, hPP⟩ : ∃ PP, (if T.inAll fs n then GivesA ds e (T.puts n (T.pairs fs z m)) 0 w else GivesA [] 0 [] 1 w) = PP := ⟨_, rfl⟩
  rw [hPP]
  have HPP := Lib.hid hPP
  clear hPP
  unfold tensor
  go_enter Try.func20, Try.ntmps20
  go_wp2_with fail
  refine (M.out _ _ Q3.out G0.out G1.out).mono ?_
  rintro e' w4 ⟨rfl, hb⟩
  have HX4 := Lib.hid (blk_below Q1.out hb)
  have HR4 := Lib.hid (blk_below Q2.out hb)
  have B4 := Lib.hid (Q4.out.step hb)
  have H34 := Lib.hid (G3.out.below hb)
  obtain ⟨x0, x1, x2, _, _, _⟩ := newTensor HX4.out
  have hlt4 : w.heap.size + 1 < w4.heap.size := lt_of_block HR4.out
  clear hb M G0 G1 G3 Q1 Q2 Q3 Q4
  go_wp2_with fail
  refine (S.out _ H34.out).mono ?_
  rintro e' w' ⟨rfl, rfl⟩
  go_upto_region 5 with fail
  obtain ⟨i0, hi, hz0, hz1, hz2⟩ := info_parts infoInt
  go_cut [8] (fun s8 wx => AccFill ds dl e n w' s8 wx)
  case first =>
    go_region_held3 (fun w'' => w''.cell? ⟨w.heap.size, 1, none⟩ = some (.int .i64 e))
      (first | exact cell_realloc (by assumption) (by show w.heap.size < _; omega) | exact cell_set3 (by assumption) (by show w.heap.size ≠ _; omega) | exact hbc.cell_of (by first | assumption | exact cell_alloc1 (by assumption) _) | exact hb1.cell_of (by first | assumption | exact cell_alloc1 (by assumption) _) | assumption | exact cell_alloc1 (by assumption) _ | exact cell_drew1 x1 | go_keep)
      (first
        | (go_at_call 41; ((refine (AC.out _ _ _ (by first | with_reducible exact hrow1 | with_reducible exact RowAt.alloc1 hrow1 _)).mono ?_); rintro ea wa ⟨gr, rfl, hoa, hbc⟩; (first | (have hz2 : w1.heap.size + 1 ≤ wa.heap.size := (by have := hbc.size; rw [World.size_alloc] at this; exact this)) | (have hz2 : w1.heap.size ≤ wa.heap.size := hbc.size)); (first | (have hy2 := blk_below hy1 hbc; obtain ⟨y0, y1, y2, y3, y4, y5⟩ := newTensor hy2) | (have hy2 := blk_below (heap_alloc_new w1 _) hbc; obtain ⟨y0, y1, y2, y3, y4, y5⟩ := newTensor hy2) | skip)))
        | (refine step_append_lies _ (by rfl) _ _ _ (by rfl) w'.heap.size 3 i0 _ 1 8 Try.underlying22 hi hz0 hz1 hz2 rfl (by omega) (.slice none 0 0) 0 [] (by rfl) (World.ownsRow_nil _ _ _ _) ⟨pa, oa, none⟩ dl dc (ds.map (Value.int .i64)) (by rfl) (by rw [List.length_map, hdll.out, Nat.mul_one]) (RowAt.news (by first | with_reducible exact RowAt.drew1 H34.out | with_reducible exact RowAt.drew1 (RowAt.alloc1 H34.out _))) (oneCells _ _) hdl.1 (by unfold maxLen; omega) (by omega) (by first | exact Nat.le_refl _ | (show w'.heap.size ≤ (World.alloc _ _).heap.size; rw [World.size_alloc]; exact Nat.le_succ _)) _ rfl ?_; intro g1 cap1 w1 hown1 hgrow1 hat1 hlt1; have hb1 := grownNone hgrow1; have hrow1 : RowAt .i64 w1 (some ⟨g1, 0, none⟩) dl ds := RowAt.owned (by have := hown1; rw [Nat.zero_add, List.nil_append] at this; exact this) hwf.out (by omega); (first | (have hz1 : w'.heap.size + 1 ≤ w1.heap.size := (by have : (World.alloc _ _).heap.size ≤ w1.heap.size := hb1.size; rw [World.size_alloc] at this; exact this)) | (have hz1 : w'.heap.size ≤ w1.heap.size := hb1.size)); (first | (have hy1 := blk_below (w := (World.alloc w' _).drew) (heap_alloc_new w' _) hb1) | skip)))
    all_goals
      go_wp2_with fail
      go_meet
      have hg1 := (hown1.lt g1 rfl).1
      have hgr := hoa.lt gr rfl
      simp only [Value.ownBlock] at hat1
    · exact AccFill.fin (heap_alloc_new wa _) ((hrow1.below hbc).alloc1 _) (hoa.alloc _) (((below_drewN w' 1).step hb1).step hbc |>.step (below_alloc _ _)) (by omega) hg1 hlt1 (by omega) (by omega)
    · have hgz := hoa.lt gr rfl
      rw [World.size_alloc] at hgz
      refine AccFill.fin (store3 hy2) (RowAt.set3 ((hrow1.alloc1 _).below hbc) (fun x hx => by cases hx; show g1 ≠ w1.heap.size; omega)) (owned_set3 (owned_base hoa (base' := w1.heap.size) (by rw [World.size_alloc]; omega)) (by omega)) ?_ (by omega) hg1 hlt1 (by omega) (by omega)
      exact (((((below_drewN w' 1).step hb1).step (below_alloc _ _)).step hbc).setCell (by show w'.heap.size ≤ w1.heap.size; omega) _ |>.setCell (by show w'.heap.size ≤ w1.heap.size; omega) _).setCell (by show w'.heap.size ≤ w1.heap.size; omega) _
    · have hg2 : g1 = w'.heap.size + 1 := by
        rcases hat1 with h | h
        · cases h
        · have h : g1 = (World.alloc w' _).heap.size := h
          rw [World.size_alloc] at h
          exact h
      refine AccFill.fin (store3 hy2) (RowAt.set3 (hrow1.below hbc) (fun x hx => by cases hx; show g1 ≠ w'.heap.size; omega)) (owned_set3 hoa (by omega)) ?_ (by omega) hg1 hlt1 (by omega) (by omega)
      exact (((((below_alloc w' _).draws 1).step hb1).step hbc).setCell (by show w'.heap.size ≤ w'.heap.size; omega) _ |>.setCell (by show w'.heap.size ≤ w'.heap.size; omega) _).setCell (by show w'.heap.size ≤ w'.heap.size; omega) _
  case rest =>
    obtain ⟨bo, bl, cl, bd, rfl, ho, hrl, hown, hb5, g1, g2, g3, g4, g5, g6⟩ := hcut
    have HO5 := Lib.hid ho
    have HD5 := Lib.hid hown
    have HL5 := Lib.hid hrl
    have HB5 := Lib.hid hb5
    have hbo2 : w.heap.size + 1 < bo := by omega
    clear x0 x1 x2 ho hown hrl hb5
    go_wp2_with fail
    obtain ⟨w5, rfl⟩ : ∃ w5 : World, w5 = wc := ⟨_, rfl⟩
    go_loopw [39] (fun i wr => ∃ j : Nat, j ≤ m ∧ i = .int .i64 j ∧ wr.ownsRow w'.heap.size 21 1 (.slice (some ⟨bd, 0, none⟩) n n) n ((T.puts n (T.pairs fs z j)).map (Value.int .i32)) ∧ Below w'.heap.size w' wr ∧ wr.heap[bo]? = some (.cells #[.slice (some ⟨bl, 0, none⟩) dl cl, .int .i64 e, .slice (some ⟨bd, 0, none⟩) n n] 33 (0, 0)) ∧ RowAt .i64 wr (some ⟨bl, 0, none⟩) dl ds ∧ ∀ x, x < j → 0 ≤ fs.getD x 0 ∧ fs.getD x 0 < n) (fun i _ => m - (intOf i).toNat)
    case atStart => exact ⟨0, Nat.zero_le _, rfl, HD5.out, HB5.out, HO5.out, HL5.out, fun x hx => by omega⟩
    case round =>
      obtain ⟨j, hj, rfl, hown, hbel, hblk, hrl, hs⟩ := hrel
      have HOwn := Lib.hid hown
      have HBel := Lib.hid hbel
      have HBlk := Lib.hid hblk
      have HRl := Lib.hid hrl
      have HS := Lib.hid hs
      clear hs hrl
      by_cases hlt : j < m
      · obtain ⟨x0, x1, x2, _⟩ := newTensor (blk_below HX4.out hbel)
        obtain ⟨r0, r1, r2, r3, r4, r5⟩ := newTensor (blk_below HR4.out hbel)
        obtain ⟨y0, y1, y2, _⟩ := newTensor hblk
        obtain ⟨p0, o0, rfl, e0⟩ := ((H2.out.below B4.out).below hbel).cells (by omega)
        obtain ⟨p1, o1, rfl, e1⟩ := ((H1.out.below B4.out).below hbel).cells (by omega)
        have f0 := e0 j hlt
        have f1 := e1 j hlt
        have hjl : j < fs.length := by rw [H2.out.len_eq]; exact hlt
        have HMem := Lib.hid (show fs.getD j 0 ∈ fs by simp [List.getD, List.getElem?_eq_getElem hjl])
        have hv := getD8 H1.out.wf j
        have HSn := Lib.hid (T.pairs_succ fs z j)
        have HBd := Lib.hid (T.puts_bound n (T.pairs fs z j) (T.pairs_bound H1.out.wf j))
        rw [T.length_pairs] at HBd
        clear e0 e1 hbel hblk hjl
        generalize hX : fs.getD j 0 = f at *
        generalize hY : z.getD j 0 = v at *
        have HX := Lib.hid hX
        clear hX hY
        have HBB := Lib.hid (B4.out.step HBel.out)
        by_cases c1 : f < 0
        · have c3 : decide (f < 0) = true := decide_eq_true c1
          go_wp2_with fail
          refine bodyPost_ret (v := .tuple #[.agg #[.slice none 0 0, .int .i64 0, .slice none 0 0], .int .i64 1]) ?_ rfl ?_
          · obtain ⟨t0, t1, t2, _, _, _⟩ := newTensor (store3 (a := .slice none 0 0) (b := .int .i64 0) (c := .slice none 0 0) (blk_below HR4.out HBel.out))
            simp [results, Try.results20, go_sem, t0, t1, t2]
          · rw [← HPP.out, if_neg (fun h => by have := (h _ HMem.out).1; omega)]
            exact ⟨_, _, _, _, _, _, rfl, RowAt.zero _ _ _, RowAt.zero _ _ _, ((HBB.out.setCell (by show w.heap.size ≤ w.heap.size + 1; omega) _).setCell (by show w.heap.size ≤ w.heap.size + 1; omega) _).setCell (by show w.heap.size ≤ w.heap.size + 1; omega) _⟩
        · have c3 : decide (f < 0) = false := decide_eq_false c1
          by_cases c2 : f < n
          · obtain ⟨q, rfl⟩ : ∃ q : Nat, f = q := ⟨f.toNat, by omega⟩
            have hq : q < n := by omega
            have c4 : decide ((n : Int) ≤ q) = false := decide_eq_false (by omega)
            have f2 := hown.cellAt q (by omega)
            have f3 := hown.frozenAt q
            rw [List.getElem?_map, List.getElem?_eq_getElem (by rw [T.length_puts]; omega), Option.map_some] at f2
            have hg : (T.puts n (T.pairs fs z j))[q]'(by rw [T.length_puts]; omega) = (T.puts n (T.pairs fs z j)).getD q 0 := by
              have : q < (T.puts n (T.pairs fs z j)).length := by rw [T.length_puts]; omega
              simp [List.getD, List.getElem?_eq_getElem this]
            rw [hg] at f2
            have hu := HBd.out q
            have hset : T.puts n (T.pairs fs z (j + 1)) = (T.puts n (T.pairs fs z j)).set q ((T.puts n (T.pairs fs z j)).getD q 0 + v) := by
              rw [HSn.out, T.puts_snoc]
              rfl
            have HSet := Lib.hid hset
            clear hg hset hown
            generalize (T.puts n (T.pairs fs z j)).getD q 0 = u at *
            have c5 : IntKind.i32.wrap (u + v) = u + v := IntWalk.i32_in _ (by omega)
            have c6 : IntKind.i32.wrap v = v := IntWalk.i32_in _ (by omega)
            go_wp2_with fail
            have i1 : (0 : Int) ≤ (q : Int) := by omega
            have i2 : (q : Int) < (n : Int) := by omega
            have i3 : (0 : Int) ≤ (j : Int) := by omega
            have i4 : (j : Int) < (m : Int) := by omega
            go_region
            go_wp2_with fail
            go_roundw
            case rel =>
              refine ⟨j + 1, by omega, by go_num, ?_, (HBel.out.setCell g3 _).draws 1, ?_, ?_, fun y hy => ?_⟩
              · have := (HOwn.out.stored q (.int .i32 (u + v))).1
                rw [← List.map_set, ← HSet.out] at this
                exact this.drew
              · exact (Below.heap_setCell _ _ _ _ (fun e => g5 e.symm)).trans HBlk.out
              · exact (HRl.out.setCell _ (fun x hx => by cases hx; exact fun e => g6 e.symm)).drew1
              · by_cases c : y = j
                · subst c; rw [HX.out]; omega
                · exact HS.out y (by omega)
            case measure => simp [intOf]; omega
          · have c4 : decide ((n : Int) ≤ f) = true := decide_eq_true (by omega)
            go_wp2_with fail
            refine bodyPost_ret (v := .tuple #[.agg #[.slice none 0 0, .int .i64 0, .slice none 0 0], .int .i64 1]) ?_ rfl ?_
            · obtain ⟨t0, t1, t2, _, _, _⟩ := newTensor (store3 (a := .slice none 0 0) (b := .int .i64 0) (c := .slice none 0 0) (blk_below HR4.out HBel.out))
              simp [results, Try.results20, go_sem, t0, t1, t2]
            · rw [← HPP.out, if_neg (fun h => by have := (h _ HMem.out).2; omega)]
              exact ⟨_, _, _, _, _, _, rfl, RowAt.zero _ _ _, RowAt.zero _ _ _, ((HBB.out.setCell (by show w.heap.size ≤ w.heap.size + 1; omega) _).setCell (by show w.heap.size ≤ w.heap.size + 1; omega) _).setCell (by show w.heap.size ≤ w.heap.size + 1; omega) _⟩
      · obtain rfl : m = j := by omega
        obtain ⟨r0, r1, r2, r3, r4, r5⟩ := newTensor (blk_below HR4.out hbel)
        obtain ⟨y0, y1, y2, _⟩ := newTensor hblk
        have HBB := Lib.hid (B4.out.step HBel.out)
        clear hown hbel hblk
        have hall : T.inAll fs n := fun x hx => by
          obtain ⟨i, hi, e⟩ := List.getElem_of_mem hx
          have := HS.out i (by rw [← H2.out.len_eq]; exact hi)
          rw [show fs.getD i 0 = x by simp [List.getD, List.getElem?_eq_getElem hi, e]] at this
          exact this
        have hwf := T.puts_wf n (T.pairs fs z m) (T.pairs_bound H1.out.wf m) (by rw [T.length_pairs]; omega)
        have HO := Lib.hid (RowAt.owned HOwn.out hwf (by omega))
        have HP2 := Lib.hid (HPP.out)
        rw [if_pos hall] at HP2
        clear hall hwf
        go_wp2_with fail
        refine bodyPost_ret (v := .tuple #[.agg #[.slice (some ⟨bl, 0, none⟩) dl cl, .int .i64 e, .slice (some ⟨bd, 0, none⟩) n n], .int .i64 0]) ?_ rfl ?_
        · obtain ⟨t0, t1, t2, _, _, _⟩ := newTensor (store3 (a := .slice (some ⟨bl, 0, none⟩) dl cl) (b := .int .i64 e) (c := .slice (some ⟨bd, 0, none⟩) n n) (blk_below HR4.out HBel.out))
          simp [results, Try.results20, go_sem, t0, t1, t2]
        · rw [← HP2.out]
          refine ⟨_, _, _, _, _, _, rfl, HRl.out.set3 (fun x hx => by cases hx; show bl ≠ w.heap.size + 1; omega), HO.out.set3 (fun x hx => by cases hx; show bd ≠ w.heap.size + 1; omega), ((HBB.out.setCell (by show w.heap.size ≤ w.heap.size + 1; omega) _).setCell (by show w.heap.size ≤ w.heap.size + 1; omega) _).setCell (by show w.heap.size ≤ w.heap.size + 1; omega) _⟩
end Go.Proofs.Ytaijiihlkcbdhaa
