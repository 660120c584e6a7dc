/-
  The walk of Max where there are windows.
-/
import Derived.Test.YtaijiihlkcbdhaaPoolMaxEach
import Derived.Deep.DeepCutAuto
namespace Go.Proofs.Ytaijiihlkcbdhaa
open Go.RowKit
set_option linter.unusedVariables false
set_option linter.unusedSimpArgs false
attribute [local go_sem ↓] Go.wp_at_zero Go.wp_at_succ
theorem blk6 {w : World} {g : Nat} {a b c d e f : Value} {t : TypeId} (h : w.heap[g]? = some (.cells #[a, b, c, d, e, f] t (0, 0))) :
    w.cell? ⟨g, 0, none⟩ = some a ∧ w.cell? ⟨g, 1, none⟩ = some b ∧ w.cell? ⟨g, 2, none⟩ = some c ∧ w.cell? ⟨g, 3, none⟩ = some d ∧ w.cell? ⟨g, 4, none⟩ = some e ∧ w.cell? ⟨g, 5, none⟩ = some f := by
  simp [World.cell?, h]
theorem getD_wf {k : IntKind} {z : List Int} (h : ∀ x ∈ z, (Lit.int k x).wf = true) (i : Nat) : (Lit.int k (z.getD i 0)).wf = true := by
  by_cases hi : i < z.length
  · exact h _ (by simp [List.getD, List.getElem?_eq_getElem hi])
  · rw [show z.getD i 0 = 0 by simp [List.getD, List.getElem?_eq_none (Nat.le_of_not_lt hi)]]
    cases k <;> decide
theorem T.maxs_wf {z : List Int} (h : ∀ x ∈ z, (Lit.int .i8 x).wf = true) {R C k s : Int} {P Q n : Nat} : ∀ x ∈ T.maxs z R C k s P Q n, (Lit.int .i8 x).wf = true := by
  intro x hx
  obtain ⟨j, _, rfl⟩ := List.mem_map.1 hx
  exact getD_wf h _
theorem T.tops_wf {z : List Int} {R C k s : Int} {P Q N : Nat} (hP : outW R k s 0 = P) (hQ : outW C k s 0 = Q) (hP0 : 0 < P) (hQ0 : 0 < Q) (hz : N * R * C ≤ 8192) : ∀ x ∈ T.tops z R C k s P Q (N * (P * Q)), (Lit.int .i64 x).wf = true := by
  intro x hx
  obtain ⟨j, hj, rfl⟩ := List.mem_map.1 hx
  rw [List.mem_range] at hj
  have := T.top_in (D := z) hP hQ hP0 hQ0 hj
  exact WalkArith.wf_i64 (by omega)
theorem Kept.rowAt {B : Nat} {S : Nat → Prop} {a w : World} {k : IntKind} {b o n : Nat} {zs : List Int} (h : Kept B S a w) (hb : b < B) (hS : ¬ S b) (hr : RowAt k a (some ⟨b, o, none⟩) n zs) : RowAt k w (some ⟨b, o, none⟩) n zs := by
  obtain ⟨h1, h2, h3, h4⟩ := hr
  refine ⟨h1, h2, h3, h4.imp id ?_⟩
  rintro ⟨b', o', e, hc⟩
  cases e
  exact ⟨b, o, rfl, fun j hj => h.cell hb hS (hc j hj)⟩
theorem RowAt.setCell {k : IntKind} {w : World} {a : Option Addr} {n : Nat} {zs : List Int} (h : RowAt k w a n zs) {p : Addr} (u : Value) (hp : ∀ x, a = some x → x.block ≠ p.block) : RowAt k (w.setCell p u) a n zs := by
  obtain ⟨h1, h2, h3, h4⟩ := h
  refine ⟨h1, h2, h3, h4.imp id ?_⟩
  rintro ⟨b, o, e, hc⟩
  refine ⟨b, o, e, fun j hj => ?_⟩
  have := hc j hj
  have hh := Below.heap_setCell w p u b (hp _ e)
  unfold World.cell? at this ⊢
  simp only [hh]
  exact this
theorem RowAt.set3 {k : IntKind} {w : World} {a : Option Addr} {n g : Nat} {zs : List Int} {x y z : Value} (h : RowAt k w a n zs) (hp : ∀ x, a = some x → x.block ≠ g) : RowAt k (((w.setCell ⟨g, 0, none⟩ x).setCell ⟨g, 1, none⟩ y).setCell ⟨g, 2, none⟩ z) a n zs :=
  ((h.setCell x hp).setCell y hp).setCell z hp
theorem Kept.toBelow {B : Nat} {S : Nat → Prop} {w w5 w6 : World} (hk : Kept B S w5 w6) (hb : Below w.heap.size w w5) (hB : w.heap.size ≤ B) (hS : ∀ g, S g → w.heap.size ≤ g) : Below w.heap.size w w6 :=
  ⟨hk.os.trans hb.os, hk.tape.trans hb.tape, hk.output.trans hb.output, Nat.le_trans hb.size hk.size, fun g hg => (hk.block g (Nat.lt_of_lt_of_le hg hB) (fun h => by have := hS g h; omega)).trans (hb.block g hg)⟩
/-- The tensor that is to be filled, and its lengths. -/
def OutAt (e d0 d1 : Int) (P Q : Nat) (w4 : World) (v : Value) (wx : World) : Prop := ∃ bo bd, v = .pointer (some ⟨bo, 0, none⟩) ∧ wx.heap[bo]? = some (.cells #[.slice (some ⟨bd, 0, none⟩) 4 4, .int .i64 e, .slice none 0 0] 25 (0, 0)) ∧
  RowAt .i64 wx (some ⟨bd, 0, none⟩) 4 [d0, d1, P, Q] ∧ Below w4.heap.size w4 wx ∧ w4.heap.size ≤ bo ∧ w4.heap.size ≤ bd ∧ bd ≠ bo
theorem OutAt.one (e d0 d1 : Int) (P Q : Nat) (w4 : World) (h0 : (Lit.int .i64 d0).wf = true) (h1 : (Lit.int .i64 d1).wf = true) (hP : P ≤ 100) (hQ : Q ≤ 100) :
    OutAt e d0 d1 P Q w4 (.pointer (some ⟨w4.heap.size, 0, none⟩)) ((w4.alloc (.cells #[.slice (some ⟨w4.heap.size + 1, 0, none⟩) 4 4, .int .i64 e, .slice none 0 0] 25)).alloc (.cells #[.int .i64 d0, .int .i64 d1, .int .i64 P, .int .i64 Q] 3)).drew := by
  have hw : ∀ z ∈ [d0, d1, (P : Int), (Q : Int)], (Lit.int .i64 z).wf = true := by
    intro z hz
    simp at hz
    rcases hz with rfl | rfl | rfl | rfl
    · exact h0
    · exact h1
    · exact WalkArith.wf_i64 (by omega)
    · exact WalkArith.wf_i64 (by omega)
  have hr := RowAt.new (w4.alloc (.cells #[.slice (some ⟨w4.heap.size + 1, 0, none⟩) 4 4, .int .i64 e, .slice none 0 0] 25)) .i64 3 (0, 0) [d0, d1, (P : Int), (Q : Int)] hw (by simp)
  rw [World.size_alloc] at hr
  exact ⟨_, _, rfl, blk_alloc (heap_alloc_new w4 _) _, RowAt.draws hr 1, ((below_alloc w4 _).step (below_alloc _ _)).draws 1, Nat.le_refl _, by omega, by omega⟩
theorem OutAt.two (e d0 d1 : Int) (P Q : Nat) (w4 : World) (h0 : (Lit.int .i64 d0).wf = true) (h1 : (Lit.int .i64 d1).wf = true) (hP : P ≤ 100) (hQ : Q ≤ 100) :
    OutAt e d0 d1 P Q w4 (.pointer (some ⟨w4.heap.size + 1, 0, none⟩)) ((w4.alloc (.cells #[.int .i64 d0, .int .i64 d1, .int .i64 P, .int .i64 Q] 3)).alloc (.cells #[.slice (some ⟨w4.heap.size, 0, none⟩) 4 4, .int .i64 e, .slice none 0 0] 25)).drew := by
  have hw : ∀ z ∈ [d0, d1, (P : Int), (Q : Int)], (Lit.int .i64 z).wf = true := by
    intro z hz
    simp at hz
    rcases hz with rfl | rfl | rfl | rfl
    · exact h0
    · exact h1
    · exact WalkArith.wf_i64 (by omega)
    · exact WalkArith.wf_i64 (by omega)
  have hr := RowAt.new w4 .i64 3 (0, 0) [d0, d1, (P : Int), (Q : Int)] hw (by simp)
  have hn := heap_alloc_new (w4.alloc (.cells #[.int .i64 d0, .int .i64 d1, .int .i64 P, .int .i64 Q] 3)) (.cells #[.slice (some ⟨w4.heap.size, 0, none⟩) 4 4, .int .i64 e, .slice none 0 0] 25)
  rw [World.size_alloc] at hn
  exact ⟨_, _, rfl, hn, RowAt.draws (hr.below (below_alloc _ _)) 1, ((below_alloc w4 _).step (below_alloc _ _)).draws 1, by omega, Nat.le_refl _, by omega⟩
/-- What Max gives, and that its lengths' row is no longer than its place. -/
def GivesMaxC (ds : List Int) (e : Int) (zs fs : List Int) (w : World) : Ending → World → Prop := fun r w' => ∃ a l c b m k g n h, l ≤ c ∧ r = .returned (.tuple #[tensor a l c e b m k, .slice g n h, .int .i64 0]) ∧ RowAt .i64 w' a l ds ∧ RowAt .i8 w' b m zs ∧ RowAt .i64 w' g n fs ∧ Below w.heap.size w w'
set_option maxRecDepth 100000 in
set_option maxHeartbeats 8000000 in
theorem max_yesC (a : Option Addr) (c : Nat) (d : List Int) (e : Int) (b : Option Addr) (m k0 : Nat) (z : List Int) (k s : Int) (P Q N : Nat) (w : World) (h0 : RowAt .i64 w a 4 d) (h1 : RowAt .i8 w b m z) (ht : T.may d e z) (hP : outW (d.getD 2 0) k s 0 = P) (hQ : outW (d.getD 3 0) k s 0 = Q) (hP0 : 0 < P) (hQ0 : 0 < Q) (hN : d.getD 0 0 * d.getD 1 0 = N) (hN2 : N ≤ 8192) (hz : (m : Int) = N * d.getD 2 0 * d.getD 3 0) (hm8 : m ≤ 8192) :
    Calls Try.prog 10 #[tensor a 4 c e b m k0, .int .i64 k, .int .i64 s] w (GivesMaxC [d.getD 0 0, d.getD 1 0, P, Q] e (T.maxs z (d.getD 2 0) (d.getD 3 0) k s P Q (N * (P * Q))) (T.tops z (d.getD 2 0) (d.getD 3 0) k s P Q (N * (P * Q))) w) := by
  have M := Lib.hid (fun w h0 h1 => (decide_eq_true ht ▸ tmay_any a 4 c d e b m k0 z w h0 h1 : Calls _ _ _ _ (GivesV (.bool true) w)))
  have OV := Lib.hid (fun w h => over_yes a c d k s w h)
  rw [hP, hQ, decide_eq_true (show (0 : Int) < P by omega), decide_eq_true (show (0 : Int) < Q by omega)] at OV
  have hwf0 := h0.wf
  obtain ⟨b0, o0, rfl, e0⟩ := h0.cells (by omega)
  have hdw : ∀ i, i < 4 → (Lit.int .i64 (d.getD i 0)).wf = true := fun i hi => by
    have : i < d.length := by rw [h0.len_eq]; exact hi
    exact hwf0 _ (by simp [List.getD, List.getElem?_eq_getElem this])
  have wf0 := hdw 0 (by omega)
  have wf1 := hdw 1 (by omega)
  have dc0 := e0 0 (by omega)
  have dc1 := e0 1 (by omega)
  rw [Nat.add_zero] at dc0
  have H0 := Lib.hid h0
  have H1 := Lib.hid h1
  generalize d.getD 0 0 = d0 at *
  generalize d.getD 1 0 = d1 at *
  generalize d.getD 2 0 = R at *
  generalize d.getD 3 0 = C at *
  have HN := Lib.hid hN
  have HP := Lib.hid hP
  have HQ := Lib.hid hQ
  have HZ := Lib.hid hz
  have DC0 := Lib.hid dc0
  have DC1 := Lib.hid dc1
  clear h0 h1 ht hP hQ hN hz hdw hwf0 e0 dc0 dc1
  unfold tensor
  unfold tensor at M
  unfold windows at OV
  go_enter Try.func10, Try.ntmps10
  go_wp2_with fail
  refine (M.out _ ((H0.out.below (below_alloc _ _)).below (below_alloc _ _)) ((H1.out.below (below_alloc _ _)).below (below_alloc _ _))).mono ?_
  rintro e' w2 ⟨rfl, hb⟩
  have HX := Lib.hid (blk_below (blk_alloc (heap_alloc_new w _) _) hb)
  obtain ⟨x0, x1, x2, _, _, _⟩ := newTensor HX.out
  have HR := Lib.hid (blk_below (heap_alloc_new (w.alloc _) _) hb)
  rw [World.size_alloc] at HR
  have BB := Lib.hid (((below_alloc w _).step (below_alloc _ _)).step hb)
  have H2 := Lib.hid (((H0.out.below (below_alloc _ _)).below (below_alloc _ _)).below hb)
  clear hb M
  go_wp2_with fail
  refine (OV.out _ H2.out).mono ?_
  rintro e' w3 ⟨rfl, hb⟩
  have HX3 := Lib.hid (blk_below HX.out hb)
  have HR3 := Lib.hid (blk_below HR.out hb)
  have B3 := Lib.hid (BB.out.step hb)
  clear hb x0 x1 x2 HX HR BB H2 OV
  go_upto_region 6 with fail
  have HB4 := Lib.hid (heap_alloc_new w3 (Obj.cells #[.int .i64 R, .int .i64 C, .int .i64 k, .int .i64 s, .int .i64 P, .int .i64 Q] 54))
  have HX4 := Lib.hid (blk_alloc HX3.out (Obj.cells #[.int .i64 R, .int .i64 C, .int .i64 k, .int .i64 s, .int .i64 P, .int .i64 Q] 54))
  have HR4 := Lib.hid (blk_alloc HR3.out (Obj.cells #[.int .i64 R, .int .i64 C, .int .i64 k, .int .i64 s, .int .i64 P, .int .i64 Q] 54))
  have B4 := Lib.hid (B3.out.step (below_alloc w3 (Obj.cells #[.int .i64 R, .int .i64 C, .int .i64 k, .int .i64 s, .int .i64 P, .int .i64 Q] 54)))
  have hw3 : w.heap.size + 1 < w3.heap.size := lt_of_block HR3.out
  clear HX3 HR3 B3
  generalize w3.alloc (Obj.cells #[.int .i64 R, .int .i64 C, .int .i64 k, .int .i64 s, .int .i64 P, .int .i64 Q] 54) = w4 at *
  generalize w3.heap.size = bw at *
  have hb0 : b0 < w.heap.size := World.block_lt_of_cell? w _ DC0.out
  obtain ⟨x0, x1, x2, _, _, _⟩ := newTensor HX4.out
  obtain ⟨_, _, _, _, p4, p5⟩ := blk6 HB4.out
  have dc0 := B4.out.cell_of DC0.out
  have dc1 := B4.out.cell_of DC1.out
  have hPs : P ≤ 100 := by have := outW_max R k s 0; rw [HP.out] at this; omega
  have hQs : Q ≤ 100 := by have := outW_max C k s 0; rw [HQ.out] at this; omega
  have hPs20 : P ≤ 20 := by have := outW_max R k s 0; rw [HP.out] at this; omega
  have hQs20 : Q ≤ 20 := by have := outW_max C k s 0; rw [HQ.out] at this; omega
  go_cut [11] (fun s11 wx => OutAt e d0 d1 P Q w4 s11 wx)
  case first => as_aux_lemma =>
    go_region_held3 (fun w' => w'.cell? ⟨w.heap.size, 0, none⟩ = some (.slice (some ⟨b0, o0, none⟩) 4 c) ∧ w'.cell? ⟨w.heap.size, 1, none⟩ = some (.int .i64 e) ∧ w'.cell? ⟨bw, 4, none⟩ = some (.int .i64 P) ∧ w'.cell? ⟨bw, 5, none⟩ = some (.int .i64 Q) ∧ w'.cell? ⟨b0, o0, none⟩ = some (.int .i64 d0) ∧ w'.cell? ⟨b0, o0 + 1, none⟩ = some (.int .i64 d1)) (go_keep) (fail)
    all_goals
      go_wp2_with fail
      go_meet
      case rel => first | exact OutAt.one e d0 d1 P Q w4 wf0 wf1 hPs hQs | exact OutAt.two e d0 d1 P Q w4 wf0 wf1 hPs hQs
  case rest =>
    obtain ⟨bo, bd, rfl, ho, hd4, hb5, hl1, hl2, hl3⟩ := hcut
    have HO := Lib.hid ho
    have HD := Lib.hid hd4
    have HX5 := Lib.hid (blk_alloc (blk_below HX4.out hb5) (Obj.cells #[.slice none 0 0] 22))
    have HR5 := Lib.hid (blk_alloc (blk_below HR4.out hb5) (Obj.cells #[.slice none 0 0] 22))
    have HB5 := Lib.hid (blk_alloc (blk_below HB4.out hb5) (Obj.cells #[.slice none 0 0] 22))
    have HO5 := Lib.hid (blk_alloc HO.out (Obj.cells #[.slice none 0 0] 22))
    have HF5 := Lib.hid (heap_alloc_new wc (Obj.cells #[.slice none 0 0] 22))
    have HD5 := Lib.hid (HD.out.below (below_alloc wc (Obj.cells #[.slice none 0 0] 22)))
    have B5 := Lib.hid ((B4.out.step hb5).step (below_alloc wc (Obj.cells #[.slice none 0 0] 22)))
    have hs1 : w4.heap.size ≤ wc.heap.size := hb5.size
    have hs2 : bw < w4.heap.size := lt_of_block HB4.out
    have hs3 : bo < wc.heap.size := lt_of_block HO.out
    have hs4 : bd < wc.heap.size := HD.out.lt (by omega)
    have hs5 : wc.heap.size < (wc.alloc (Obj.cells #[.slice none 0 0] 22)).heap.size := by rw [World.size_alloc]; omega
    clear ho hd4 hb5 HO HD HX4 HR4 HB4 B4 x0 x1 x2 p4 p5 dc0 dc1
    go_wp2_with fail
    generalize wc.alloc (Obj.cells #[.slice none 0 0] 22) = w5 at *
    generalize wc.heap.size = bf at *
    have ME := Lib.hid (maxEach w w5.drew b m k0 z R C k s P Q N w.heap.size bo bf _ _ _ _ HP.out HQ.out hP0 hQ0 hN2 HZ.out hm8 H1.out (B5.out.draws 1) HX5.out HO5.out HF5.out (by omega) (by omega) (by omega) (by omega) (by omega))
    unfold windows at ME
    have hN := HN.out
    have hNw : IntKind.i64.wrap (N : Int) = N := wrap_small N (by omega)
    obtain ⟨x0, _, _, _, _, _⟩ := newTensor HX5.out
    obtain ⟨p0, p1, p2, p3, p4, p5⟩ := blk6 HB5.out
    have dc0 := B5.out.cell_of DC0.out
    have dc1 := B5.out.cell_of DC1.out
    go_region_held3 (fun w' => (w'.cell? ⟨bw, 0, none⟩ = some (.int .i64 R) ∧ w'.cell? ⟨bw, 1, none⟩ = some (.int .i64 C) ∧ w'.cell? ⟨bw, 2, none⟩ = some (.int .i64 k) ∧ w'.cell? ⟨bw, 3, none⟩ = some (.int .i64 s) ∧ w'.cell? ⟨bw, 4, none⟩ = some (.int .i64 P) ∧ w'.cell? ⟨bw, 5, none⟩ = some (.int .i64 Q)) ∧ w'.cell? ⟨w.heap.size, 0, none⟩ = some (.slice (some ⟨b0, o0, none⟩) 4 c) ∧ w'.cell? ⟨b0, o0, none⟩ = some (.int .i64 d0) ∧ w'.cell? ⟨b0, o0 + 1, none⟩ = some (.int .i64 d1))
      (first
        | go_keep
        | exact ⟨⟨hkp.out.cell (by show bw < w5.heap.size; omega) (by show ¬ (bw = bo ∨ bw = bf); omega) p0, hkp.out.cell (by show bw < w5.heap.size; omega) (by show ¬ (bw = bo ∨ bw = bf); omega) p1, hkp.out.cell (by show bw < w5.heap.size; omega) (by show ¬ (bw = bo ∨ bw = bf); omega) p2, hkp.out.cell (by show bw < w5.heap.size; omega) (by show ¬ (bw = bo ∨ bw = bf); omega) p3, hkp.out.cell (by show bw < w5.heap.size; omega) (by show ¬ (bw = bo ∨ bw = bf); omega) p4, hkp.out.cell (by show bw < w5.heap.size; omega) (by show ¬ (bw = bo ∨ bw = bf); omega) p5⟩, hkp.out.cell (by show w.heap.size < w5.heap.size; omega) (by show ¬ (w.heap.size = bo ∨ w.heap.size = bf); omega) x0, hkp.out.cell (by show b0 < w5.heap.size; omega) (by show ¬ (b0 = bo ∨ b0 = bf); omega) dc0, hkp.out.cell (by show b0 < w5.heap.size; omega) (by show ¬ (b0 = bo ∨ b0 = bf); omega) dc1⟩)
      (first | (go_at_call 26; (refine ME.out.mono ?_); rintro e6 w6 ⟨rfl, hma, hka⟩; have hkp := Lib.hid hka; have hmx := Lib.hid hma; clear hma hka))
    obtain ⟨vd, vf, ho6, hf6, htw⟩ := hmx.out
    have hr6 := (hkp.out.block (w.heap.size + 1) (by show w.heap.size + 1 < w5.heap.size; omega) (by show ¬ (w.heap.size + 1 = bo ∨ w.heap.size + 1 = bf); omega)).trans HR5.out
    have hNPQ : N * (P * Q) ≤ 3300000 := by
      have := Nat.mul_le_mul hN2 (Nat.mul_le_mul hPs20 hQs20)
      omega
    obtain ⟨av, cv, rfl, hrv⟩ := RowAt.ownedAny htw.fst (T.maxs_wf H1.out.wf) (by omega)
    obtain ⟨af, cf, rfl, hrf⟩ := RowAt.ownedAny htw.snd (T.tops_wf HP.out HQ.out hP0 hQ0 (by rw [← HZ.out]; omega)) (by omega)
    have HRV := Lib.hid hrv
    have HRF := Lib.hid hrf
    have HRD := Lib.hid (hkp.out.rowAt (by show bd < w5.heap.size; omega) (by show ¬ (bd = bo ∨ bd = bf); omega) (HD5.out.draws 1))
    have B6 := Lib.hid (hkp.out.toBelow (B5.out.draws 1) (by show w.heap.size ≤ w5.heap.size; omega) (by rintro g (rfl | rfl) <;> omega))
    have lv := Lib.hid (fun x (h : av = some x) => (htw.fst.lt x.block (by rw [h]; rfl)).1)
    have lf := Lib.hid (fun x (h : af = some x) => (htw.snd.lt x.block (by rw [h]; rfl)).1)
    obtain ⟨q0, q1, q2, _, _, _⟩ := newTensor ho6
    have qf := cell_of_one hf6
    have HR6 := Lib.hid hr6
    obtain ⟨u0, u1, u2, u3, u4, u5⟩ := newTensor hr6
    clear hr6 ho6 hf6 htw hrv hrf x0 p0 p1 p2 p3 p4 p5 dc0 dc1 hmx HB5 HX5 HO5 HF5 ME
    go_wp2_with fail
    go_region
    go_wp2
    refine bodyPost_ret (v := .tuple #[.agg #[.slice (some ⟨bd, 0, none⟩) 4 4, .int .i64 e, .slice av (N * (P * Q)) cv], .slice af (N * (P * Q)) cf, .int .i64 0]) ?_ rfl ⟨_, 4, 4, _, _, _, _, _, _, Nat.le_refl 4, rfl, ?_, ?_, ?_, ?_⟩
    · obtain ⟨r0, r1, r2, _, _, _⟩ := newTensor (store3 (a := .slice (some ⟨bd, 0, none⟩) 4 4) (b := .int .i64 e) (c := .slice av (N * (P * Q)) cv) HR6.out)
      simp [results, Try.results10, go_sem, r0, r1, r2]
    · exact RowAt.draws (HRD.out.set3 (fun x hx => by cases hx; show bd ≠ w.heap.size + 1; omega)) 1
    · exact RowAt.draws (HRV.out.set3 (fun x hx => by have := lv.out x hx; have : w5.drew.heap.size = w5.heap.size := rfl; omega)) 1
    · exact RowAt.draws (HRF.out.set3 (fun x hx => by have := lf.out x hx; have : w5.drew.heap.size = w5.heap.size := rfl; omega)) 1
    · exact (((B6.out.setCell (by show w.heap.size ≤ w.heap.size + 1; omega) _).setCell (by show w.heap.size ≤ w.heap.size + 1; omega) _).setCell (by show w.heap.size ≤ w.heap.size + 1; omega) _).draws 1
theorem max_yes (a : Option Addr) (c : Nat) (d : List Int) (e : Int) (b : Option Addr) (m k0 : Nat) (z : List Int) (k s : Int) (P Q N : Nat) (w : World) (h0 : RowAt .i64 w a 4 d) (h1 : RowAt .i8 w b m z) (ht : T.may d e z) (hP : outW (d.getD 2 0) k s 0 = P) (hQ : outW (d.getD 3 0) k s 0 = Q) (hP0 : 0 < P) (hQ0 : 0 < Q) (hN : d.getD 0 0 * d.getD 1 0 = N) (hN2 : N ≤ 8192) (hz : (m : Int) = N * d.getD 2 0 * d.getD 3 0) (hm8 : m ≤ 8192) :
    Calls Try.prog 10 #[tensor a 4 c e b m k0, .int .i64 k, .int .i64 s] w (GivesMax [d.getD 0 0, d.getD 1 0, P, Q] e (T.maxs z (d.getD 2 0) (d.getD 3 0) k s P Q (N * (P * Q))) (T.tops z (d.getD 2 0) (d.getD 3 0) k s P Q (N * (P * Q))) w) :=
  (max_yesC a c d e b m k0 z k s P Q N w h0 h1 ht hP hQ hP0 hQ0 hN hN2 hz hm8).mono fun _ _ ⟨a, l, c, b, m, k, g, n, h, _, e⟩ => ⟨a, l, c, b, m, k, g, n, h, e⟩
end Go.Proofs.Ytaijiihlkcbdhaa
