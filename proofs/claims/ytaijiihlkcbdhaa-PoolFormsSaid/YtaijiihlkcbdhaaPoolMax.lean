/-
  The walk of Max.
-/
import Derived.Test.YtaijiihlkcbdhaaPoolPlain
namespace Go.Proofs.Ytaijiihlkcbdhaa
open Go.RowKit
set_option linter.unusedVariables false
attribute [local go_sem ↓] Go.wp_at_zero Go.wp_at_succ
/-- What Max gives: a tensor, which they are, and no error. -/
def GivesMax (ds : List Int) (e : Int) (zs fs : List Int) (w : World) : Ending → World → Prop := fun r w' => ∃ a l c b m k g n h, r = .returned (.tuple #[tensor a l c e b m k, .slice g n h, .int .i64 0]) ∧ RowAt .i64 w' a l ds ∧ RowAt .i8 w' b m zs ∧ RowAt .i64 w' g n fs ∧ Below w.heap.size w w'
theorem blk_below {w w' : World} {g : Nat} {o : Obj} (h : w.heap[g]? = some o) (hb : Below w.heap.size w w') : w'.heap[g]? = some o := (hb.block g (lt_of_block h)).trans h
theorem newTensor {w : World} {g : Nat} {x y z : Value} {t : TypeId} (h : w.heap[g]? = some (.cells #[x, y, z] t (0, 0))) :
    w.cell? ⟨g, 0, none⟩ = some x ∧ w.cell? ⟨g, 1, none⟩ = some y ∧ w.cell? ⟨g, 2, none⟩ = some z ∧ w.frozen? ⟨g, 0, none⟩ = false ∧ w.frozen? ⟨g, 1, none⟩ = false ∧ w.frozen? ⟨g, 2, none⟩ = false := by
  simp [World.cell?, World.frozen?, h]
theorem three_setCell0 {w : World} {b : Nat} {x y z u : Value} {t : TypeId} (h : w.heap[b]? = some (.cells #[x, y, z] t (0, 0))) : (w.setCell ⟨b, 0, none⟩ u).heap[b]? = some (.cells #[u, y, z] t (0, 0)) := by
  have hlt := lt_of_block h
  have h' : w.heap[b] = .cells #[x, y, z] t (0, 0) := by simpa [Array.getElem?_eq_getElem hlt] using h
  show (w.heap.modify b _)[b]? = _
  rw [Array.getElem?_eq_getElem (by simpa using hlt), Array.getElem_modify_self, h']
  rfl
theorem three_setCell1 {w : World} {b : Nat} {x y z u : Value} {t : TypeId} (h : w.heap[b]? = some (.cells #[x, y, z] t (0, 0))) : (w.setCell ⟨b, 1, none⟩ u).heap[b]? = some (.cells #[x, u, z] t (0, 0)) := by
  have hlt := lt_of_block h
  have h' : w.heap[b] = .cells #[x, y, z] t (0, 0) := by simpa [Array.getElem?_eq_getElem hlt] using h
  show (w.heap.modify b _)[b]? = _
  rw [Array.getElem?_eq_getElem (by simpa using hlt), Array.getElem_modify_self, h']
  rfl
theorem store3 {w : World} {g : Nat} {x y z a b c : Value} {t : TypeId} (h : w.heap[g]? = some (.cells #[x, y, z] t (0, 0))) :
    (((w.setCell ⟨g, 0, none⟩ a).setCell ⟨g, 1, none⟩ b).setCell ⟨g, 2, none⟩ c).heap[g]? = some (.cells #[a, b, c] t (0, 0)) :=
  three_setCell (three_setCell1 (three_setCell0 h))
theorem max_arg (a : Option Addr) (l c : Nat) (d : List Int) (e : Int) (b : Option Addr) (m k0 : Nat) (z : List Int) (k s : Int) (w : World) (h0 : RowAt .i64 w a l d) (h1 : RowAt .i8 w b m z) (ht : ¬ T.may d e z) :
    Calls Try.prog 10 #[tensor a l c e b m k0, .int .i64 k, .int .i64 s] w (GivesV (.tuple #[tensor none 0 0 0 none 0 0, .slice none 0 0, .int .i64 1]) w) := by
  have M := Lib.hid (fun w h0 h1 => (decide_eq_false ht ▸ tmay_any a l c d e b m k0 z w h0 h1 : Calls _ _ _ _ (GivesV (.bool false) w)))
  have H0 := Lib.hid h0
  have H1 := Lib.hid h1
  clear h0 h1 ht
  unfold tensor
  unfold tensor at M
  go_enter Try.func10, Try.ntmps10
  go_wp2_with fail
  refine (M.out _ ((H0.out.below (below_alloc _ _)).below (below_alloc _ _)) ((H1.out.below (below_alloc _ _)).below (below_alloc _ _))).mono ?_
  rintro e' w2 ⟨rfl, hb⟩
  obtain ⟨z0, z1, z2, y0, y1, y2⟩ := newTensor (blk_below (heap_alloc_new (w.alloc _) _) hb)
  rw [World.size_alloc] at z0 z1 z2 y0 y1 y2
  have BB := Lib.hid (((below_alloc w _).step (below_alloc _ _)).step hb)
  clear hb M
  go_wp2
  refine bodyPost_ret (v := .tuple #[.agg #[.slice none 0 0, .int .i64 0, .slice none 0 0], .slice none 0 0, .int .i64 1]) ?_ rfl ⟨rfl, ((BB.out.setCell (by show w.heap.size ≤ w.heap.size + 1; omega) _).setCell (by show w.heap.size ≤ w.heap.size + 1; omega) _).setCell (by show w.heap.size ≤ w.heap.size + 1; omega) _⟩
  simp [results, Try.results10, go_sem, z0, z1, z2]
/-- There are no windows. -/
def GivesNone (w : World) : Ending → World → Prop := fun e w' => ∃ v0 v1 v2 v3 v4 v5 : Int, e = .returned (.tuple #[.agg #[.int .i64 v0, .int .i64 v1, .int .i64 v2, .int .i64 v3, .int .i64 v4, .int .i64 v5], .bool false]) ∧ Below w.heap.size w w'
theorem over_bad (a : Option Addr) (l c : Nat) (d : List Int) (k s : Int) (w : World) (h : RowAt .i64 w a l d) (hk : ¬ (l = 4 ∧ 0 < outW (d.getD 2 0) k s 0 ∧ 0 < outW (d.getD 3 0) k s 0)) :
    Calls Try.prog 25 #[.slice a l c, .int .i64 k, .int .i64 s] w (GivesNone w) := by
  by_cases hl : l = 4
  · subst hl
    refine (over_yes a c d k s w h).mono ?_
    rintro e w' ⟨rfl, hb⟩
    have : (decide (0 < outW (d.getD 2 0) k s 0) && decide (0 < outW (d.getD 3 0) k s 0)) = false := by
      rw [Bool.and_eq_false_iff]
      by_cases h1 : 0 < outW (d.getD 2 0) k s 0
      · exact Or.inr (decide_eq_false (fun h2 => hk ⟨rfl, h1, h2⟩))
      · exact Or.inl (decide_eq_false h1)
    rw [this]
    exact ⟨_, _, _, _, _, _, rfl, hb⟩
  · refine (over_no a l c k s w h.len_le hl).mono ?_
    rintro e w' ⟨rfl, hb⟩
    exact ⟨_, _, _, _, _, _, rfl, hb⟩
theorem max_shape (a : Option Addr) (l c : Nat) (d : List Int) (e : Int) (b : Option Addr) (m k0 : Nat) (z : List Int) (k s : Int) (w : World) (h0 : RowAt .i64 w a l d) (h1 : RowAt .i8 w b m z) (ht : T.may d e z) (hk : ¬ (l = 4 ∧ 0 < outW (d.getD 2 0) k s 0 ∧ 0 < outW (d.getD 3 0) k s 0)) :
    Calls Try.prog 10 #[tensor a l c e b m k0, .int .i64 k, .int .i64 s] w (GivesV (.tuple #[tensor none 0 0 0 none 0 0, .slice none 0 0, .int .i64 2]) w) := by
  have M := Lib.hid (fun w h0 h1 => (decide_eq_true ht ▸ tmay_any a l c d e b m k0 z w h0 h1 : Calls _ _ _ _ (GivesV (.bool true) w)))
  have OV := Lib.hid (fun w h => over_bad a l c d k s w h hk)
  have H0 := Lib.hid h0
  have H1 := Lib.hid h1
  clear h0 h1 ht hk
  unfold tensor
  unfold tensor at M
  go_enter Try.func10, Try.ntmps10
  go_wp2_with fail
  refine (M.out _ ((H0.out.below (below_alloc _ _)).below (below_alloc _ _)) ((H1.out.below (below_alloc _ _)).below (below_alloc _ _))).mono ?_
  rintro e' w2 ⟨rfl, hb⟩
  have hx := newTensor (blk_below (blk_alloc (heap_alloc_new w _) _) hb)
  obtain ⟨x0, x1, x2, _, _, _⟩ := hx
  have HZ := Lib.hid (blk_below (heap_alloc_new (w.alloc _) _) hb)
  rw [World.size_alloc] at HZ
  have BB := Lib.hid (((below_alloc w _).step (below_alloc _ _)).step hb)
  have H2 := Lib.hid (((H0.out.below (below_alloc _ _)).below (below_alloc _ _)).below hb)
  clear hb M
  go_wp2_with fail
  refine (OV.out _ H2.out).mono ?_
  rintro e' w3 ⟨v0, v1, v2, v3, v4, v5, rfl, hb⟩
  have HZ3 := Lib.hid (blk_below HZ.out hb)
  obtain ⟨z0, z1, z2, y0, y1, y2⟩ := newTensor HZ3.out
  have B3 := Lib.hid (BB.out.step hb)
  have hsz : w.heap.size + 1 < w3.heap.size := Nat.lt_of_lt_of_le (lt_of_block HZ.out) hb.size
  clear hb x0 x1 x2 HZ H0 H1 H2 OV BB
  go_wp2
  refine bodyPost_ret (v := .tuple #[.agg #[.slice none 0 0, .int .i64 0, .slice none 0 0], .slice none 0 0, .int .i64 2]) ?_ rfl ⟨rfl, ?_⟩
  · obtain ⟨r0, r1, r2, _, _, _⟩ := newTensor (blk_alloc (store3 (a := .slice none 0 0) (b := .int .i64 0) (c := .slice none 0 0) HZ3.out) (Obj.cells #[.int .i64 v0, .int .i64 v1, .int .i64 v2, .int .i64 v3, .int .i64 v4, .int .i64 v5] 54))
    simp [results, Try.results10, go_sem, r0, r1, r2]
  · have hz : w.heap.size ≤ w.heap.size + 1 := by omega
    exact (((B3.out.setCell hz _).setCell hz _).setCell hz _).step (below_alloc _ _)
end Go.Proofs.Ytaijiihlkcbdhaa
