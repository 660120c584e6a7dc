/-
  What is done with one window: the greatest of it, and its number, are put behind the others.
-/
import Derived.Test.YtaijiihlkcbdhaaPoolEach
import Derived.Deep.AppendLies
import Derived.Test.YtaijiihlkcbdhaaLate
namespace Go.Proofs.Ytaijiihlkcbdhaa
open Go.RowKit
set_option linter.unusedVariables false
set_option linter.unusedSimpArgs false
attribute [local go_sem ↓] Go.wp_at_zero Go.wp_at_succ
namespace T
/-- The number of the greatest, the first of them. -/
def best (D : List Int) (b : Int) (L : List Int) : Int := L.foldl (fun b a => if D.getD b.toNat 0 < D.getD a.toNat 0 then a else b) b
theorem best_snoc (D : List Int) (b a : Int) (L : List Int) : best D b (L ++ [a]) = if D.getD (best D b L).toNat 0 < D.getD a.toNat 0 then a else best D b L := by
  simp [best]
theorem best_mem (D : List Int) : ∀ (L : List Int) (b : Int), best D b L = b ∨ best D b L ∈ L
  | [], b => Or.inl rfl
  | a :: L, b => by
    have e : best D b (a :: L) = best D (if D.getD b.toNat 0 < D.getD a.toNat 0 then a else b) L := rfl
    rw [e]
    rcases best_mem D L (if D.getD b.toNat 0 < D.getD a.toNat 0 then a else b) with h | h
    · rw [h]
      split
      · exact Or.inr (by simp)
      · exact Or.inl rfl
    · exact Or.inr (List.mem_cons_of_mem _ h)
end T
/-- Two rows of the call's own, one of bytes and one of numbers, that share no block. -/
structure Two (B : Nat) (w : World) (v : Value) (n : Nat) (xs : List Int) (u : Value) (m : Nat) (ys : List Int) : Prop where
  fst : w.ownsRow B 37 1 v n (xs.map (Value.int .i8))
  snd : w.ownsRow B 3 1 u m (ys.map (Value.int .i64))
  apart : ∀ g, v.ownBlock = some g → u.ownBlock ≠ some g
  base : B ≤ w.heap.size
theorem Two.alloc {B : Nat} {w : World} {v : Value} {n : Nat} {xs : List Int} {u : Value} {m : Nat} {ys : List Int} (h : Two B w v n xs u m ys) (o : Obj) : Two B (w.alloc o) v n xs u m ys :=
  ⟨h.fst.alloc o, h.snd.alloc o, h.apart, by rw [World.size_alloc]; have := h.base; omega⟩
theorem Two.drew {B : Nat} {w : World} {v : Value} {n : Nat} {xs : List Int} {u : Value} {m : Nat} {ys : List Int} (h : Two B w v n xs u m ys) : Two B w.drew v n xs u m ys := ⟨h.fst, h.snd, h.apart, h.base⟩
theorem Two.drewN {B : Nat} {w : World} {v : Value} {n : Nat} {xs : List Int} {u : Value} {m : Nat} {ys : List Int} (h : Two B w v n xs u m ys) (q : Nat) : Two B (w.drewN q) v n xs u m ys := ⟨h.fst, h.snd, h.apart, h.base⟩
theorem Two.one {B : Nat} {w w' : World} {v : Value} {n : Nat} {xs : List Int} {u : Value} {m g c : Nat} {ys : List Int} {x : Int} (h : Two B w v n xs u m ys) (hown : w'.ownsRow B 37 1 (.slice (some ⟨g, 0, none⟩) (n + 1) c) (n + 1) (xs.map (Value.int .i8) ++ [.int .i8 x])) (hg : w.grownBy w' v.ownBlock) (hw : v.ownBlock = some g ∨ g = w.heap.size) :
    Two B w' (.slice (some ⟨g, 0, none⟩) (n + 1) c) (n + 1) (xs ++ [x]) u m ys := by
  refine ⟨by rw [List.map_append]; exact hown, h.snd.kept hg ?_, fun g' e1 e2 => ?_, Nat.le_trans h.base hg.size⟩
  · cases hu : u.ownBlock with
    | none => exact Or.inl rfl
    | some k => exact Or.inr (fun e => h.apart k e.symm hu)
  · have e1 : some g = some g' := e1
    injection e1 with e1
    subst e1
    rcases hw with hw | hw
    · exact h.apart g hw e2
    · have := (h.snd.lt g e2).2; omega
theorem Two.two {B : Nat} {w w' : World} {v : Value} {n : Nat} {xs : List Int} {u : Value} {m g c : Nat} {ys : List Int} {y : Int} (h : Two B w v n xs u m ys) (hown : w'.ownsRow B 3 1 (.slice (some ⟨g, 0, none⟩) (m + 1) c) (m + 1) (ys.map (Value.int .i64) ++ [.int .i64 y])) (hg : w.grownBy w' u.ownBlock) (hw : u.ownBlock = some g ∨ g = w.heap.size) :
    Two B w' v n xs (.slice (some ⟨g, 0, none⟩) (m + 1) c) (m + 1) (ys ++ [y]) := by
  refine ⟨h.fst.kept hg ?_, by rw [List.map_append]; exact hown, fun g' e1 e2 => ?_, Nat.le_trans h.base hg.size⟩
  · cases hv : v.ownBlock with
    | none => exact Or.inl rfl
    | some k => exact Or.inr (fun e => h.apart k hv e.symm)
  · have e2 : some g = some g' := e2
    injection e2 with e2
    subst e2
    rcases hw with hw | hw
    · exact h.apart g e1 hw
    · have := (h.fst.lt g e1).2; omega
/-- Below B nothing has turned but in the blocks of S. -/
structure Kept (B : Nat) (S : Nat → Prop) (w w' : World) : Prop where
  os : w'.os = w.os
  tape : w'.tape = w.tape
  output : w'.output = w.output
  size : w.heap.size ≤ w'.heap.size
  block : ∀ g, g < B → ¬ S g → w'.heap[g]? = w.heap[g]?
theorem Kept.trans {B : Nat} {S : Nat → Prop} {a b c : World} (h : Kept B S a b) (k : Kept B S b c) : Kept B S a c :=
  ⟨k.os.trans h.os, k.tape.trans h.tape, k.output.trans h.output, Nat.le_trans h.size k.size, fun g hg hn => (k.block g hg hn).trans (h.block g hg hn)⟩
theorem news1 {w : World} {A : Nat} {v : Value} (h : w.cell? ⟨A, 0, none⟩ = some v) : ∀ j u, [v][j]? = some u → w.cell? ((⟨A, 0, none⟩ : Addr).add j) = some u := by
  intro j u hu
  cases j with
  | zero => simp at hu; subst hu; exact h
  | succ j => simp at hu
theorem blk_grown {w w' : World} {row : Option Nat} {g : Nat} {o : Obj} (hg : w.grownBy w' row) (h : w.heap[g]? = some o) (hne : row = some g → False) : w'.heap[g]? = some o :=
  (hg.block g (lt_of_block h) (fun e => hne e.symm)).trans h
theorem blk_alloc {w : World} {g : Nat} {o : Obj} (h : w.heap[g]? = some o) (p : Obj) : (w.alloc p).heap[g]? = some o :=
  ((below_alloc w p).block g (lt_of_block h)).trans h
theorem info8 : (Try.prog.info? 37).map (fun i => (i.zero, i.size, i.bytes)) = some (some (.int .i8 0), 1, 1) := by kernel_rfl
def MaxAt (B bo bf : Nat) (od oe : Value) (n : Nat) (xs ys : List Int) (w : World) : Prop := ∃ vd vf, w.heap[bo]? = some (.cells #[od, oe, vd] 25 (0, 0)) ∧ w.heap[bf]? = some (.cells #[vf] 22 (0, 0)) ∧ Two B w vd n xs vf n ys
/-- What stands while the two rows are appended to: the rows, the cells of the captured variables, what else is read. -/
structure MSt (wq W : World) (B bo bf bx b1 oo : Nat) (od oe cd cf xd xb v : Value) (n : Nat) (xs : List Int) (u : Value) (m : Nat) (ys : List Int) : Prop where
  two : Two B W v n xs u m ys
  ho : W.heap[bo]? = some (.cells #[od, oe, cd] 25 (0, 0))
  hf : W.heap[bf]? = some (.cells #[cf] 22 (0, 0))
  hx : W.cell? ⟨bx, 2, none⟩ = some xd
  he : W.cell? ⟨b1, oo, none⟩ = some xb
  kept : Kept B (fun g => g = bo ∨ g = bf) wq W
variable {wq W W' : World} {B bo bf bx b1 oo : Nat} {od oe cd cf xd xb v : Value} {n : Nat} {xs : List Int} {u : Value} {m : Nat} {ys : List Int}
theorem MSt.alloc (h : MSt wq W B bo bf bx b1 oo od oe cd cf xd xb v n xs u m ys) (o : Obj) : MSt wq (W.alloc o) B bo bf bx b1 oo od oe cd cf xd xb v n xs u m ys :=
  ⟨h.two.alloc o, blk_alloc h.ho o, blk_alloc h.hf o, (below_alloc W o).cell_of h.hx, (below_alloc W o).cell_of h.he,
    ⟨h.kept.os, h.kept.tape, h.kept.output, by rw [World.size_alloc]; have := h.kept.size; omega, fun g hg hn => ((below_alloc W o).block g (Nat.lt_of_lt_of_le hg h.two.base)).trans (h.kept.block g hg hn)⟩⟩
theorem MSt.drew (h : MSt wq W B bo bf bx b1 oo od oe cd cf xd xb v n xs u m ys) : MSt wq W.drew B bo bf bx b1 oo od oe cd cf xd xb v n xs u m ys :=
  ⟨h.two.drew, h.ho, h.hf, h.hx, h.he, ⟨h.kept.os, h.kept.tape, h.kept.output, h.kept.size, h.kept.block⟩⟩
theorem Kept.grown {S : Nat → Prop} {row : Option Nat} (h : Kept B S wq W) (hg : W.grownBy W' row) (hB : B ≤ W.heap.size) (hr : ∀ k, row = some k → B ≤ k) : Kept B S wq W' :=
  ⟨hg.os.trans h.os, hg.tape.trans h.tape, hg.output.trans h.output, Nat.le_trans h.size hg.size, fun g hgB hn => (hg.block g (Nat.lt_of_lt_of_le hgB hB) (fun e => by have := hr g e.symm; omega)).trans (h.block g hgB hn)⟩
theorem MSt.one (h : MSt wq W B bo bf bx b1 oo od oe cd cf xd xb v n xs u m ys) (hob : bo < B) (hfb : bf < B) (hbx : bx < B) (hb1 : b1 < B) {g c : Nat} {x : Int} (hown : W'.ownsRow B 37 1 (.slice (some ⟨g, 0, none⟩) (n + 1) c) (n + 1) (xs.map (Value.int .i8) ++ [.int .i8 x])) (hg : W.grownBy W' v.ownBlock) (hat : v.ownBlock = some g ∨ g = W.heap.size) :
    MSt wq W' B bo bf bx b1 oo od oe cd cf xd xb (.slice (some ⟨g, 0, none⟩) (n + 1) c) (n + 1) (xs ++ [x]) u m ys := by
  have hr : ∀ k, v.ownBlock = some k → B ≤ k := fun k e => (h.two.fst.lt k e).1
  have hn : ∀ k, k < B → v.ownBlock = some k → False := fun k hk e => by have := hr k e; omega
  exact ⟨h.two.one hown hg hat, blk_grown hg h.ho (hn _ hob), blk_grown hg h.hf (hn _ hfb), grown_cell hg h.hx (hn _ hbx), grown_cell hg h.he (hn _ hb1), h.kept.grown hg h.two.base hr⟩
theorem MSt.snd (h : MSt wq W B bo bf bx b1 oo od oe cd cf xd xb v n xs u m ys) (hob : bo < B) (hfb : bf < B) (hbx : bx < B) (hb1 : b1 < B) {g c : Nat} {y : Int} (hown : W'.ownsRow B 3 1 (.slice (some ⟨g, 0, none⟩) (m + 1) c) (m + 1) (ys.map (Value.int .i64) ++ [.int .i64 y])) (hg : W.grownBy W' u.ownBlock) (hat : u.ownBlock = some g ∨ g = W.heap.size) :
    MSt wq W' B bo bf bx b1 oo od oe cd cf xd xb v n xs (.slice (some ⟨g, 0, none⟩) (m + 1) c) (m + 1) (ys ++ [y]) := by
  have hr : ∀ k, u.ownBlock = some k → B ≤ k := fun k e => (h.two.snd.lt k e).1
  have hn : ∀ k, k < B → u.ownBlock = some k → False := fun k hk e => by have := hr k e; omega
  exact ⟨h.two.two hown hg hat, blk_grown hg h.ho (hn _ hob), blk_grown hg h.hf (hn _ hfb), grown_cell hg h.hx (hn _ hbx), grown_cell hg h.he (hn _ hb1), h.kept.grown hg h.two.base hr⟩
theorem MSt.cells (h : MSt wq W B bo bf bx b1 oo od oe cd cf xd xb v n xs u m ys) : W.cell? ⟨bo, 2, none⟩ = some cd ∧ W.cell? ⟨bx, 2, none⟩ = some xd ∧ W.cell? ⟨bf, 0, none⟩ = some cf ∧ W.cell? ⟨b1, oo, none⟩ = some xb :=
  ⟨by have := h.ho; simp [World.cell?, this], h.hx, cell_of_one h.hf, h.he⟩
theorem three_setCell {w : World} {b : Nat} {x y z u : Value} {t : TypeId} (h : w.heap[b]? = some (.cells #[x, y, z] t (0, 0))) : (w.setCell ⟨b, 2, none⟩ u).heap[b]? = some (.cells #[x, y, u] t (0, 0)) := by
  have hlt := lt_of_block h
  have h' : w.heap[b] = .cells #[x, y, z] t (0, 0) := by simpa [Array.getElem?_eq_getElem hlt] using h
  show (w.heap.modify b _)[b]? = _
  rw [Array.getElem?_eq_getElem (by simpa using hlt), Array.getElem_modify_self, h']
  rfl
theorem MSt.stored (h : MSt wq W B bo bf bx b1 oo od oe cd cf xd xb v n xs u n ys) (hob : bo < B) (hfb : bf < B) (hne : bo ≠ bf) :
    MaxAt B bo bf od oe n xs ys ((W.setCell ⟨bo, 2, none⟩ v).setCell ⟨bf, 0, none⟩ u) ∧ Kept B (fun g => g = bo ∨ g = bf) wq ((W.setCell ⟨bo, 2, none⟩ v).setCell ⟨bf, 0, none⟩ u) := by
  have nv : v.ownBlock ≠ some bo ∧ v.ownBlock ≠ some bf := ⟨fun e => by have := (h.two.fst.lt _ e).1; omega, fun e => by have := (h.two.fst.lt _ e).1; omega⟩
  have nu : u.ownBlock ≠ some bo ∧ u.ownBlock ≠ some bf := ⟨fun e => by have := (h.two.snd.lt _ e).1; omega, fun e => by have := (h.two.snd.lt _ e).1; omega⟩
  have s1 : (W.setCell ⟨bo, 2, none⟩ v).heap.size = W.heap.size := World.size_setCell _ _ _
  have s2 : ((W.setCell ⟨bo, 2, none⟩ v).setCell ⟨bf, 0, none⟩ u).heap.size = W.heap.size := (World.size_setCell _ _ _).trans s1
  refine ⟨⟨v, u, ?_, ?_, ⟨ownsRow_setCell_other (ownsRow_setCell_other h.two.fst nv.1 _) nv.2 _, ownsRow_setCell_other (ownsRow_setCell_other h.two.snd nu.1 _) nu.2 _, h.two.apart, by rw [s2]; exact h.two.base⟩⟩, ⟨h.kept.os, h.kept.tape, h.kept.output, by rw [s2]; exact h.kept.size, fun g hg hn => ?_⟩⟩
  · rw [Below.heap_setCell _ _ _ _ (fun e => hne e)]
    exact three_setCell h.ho
  · refine one_setCell (v := cf) ?_
    rw [Below.heap_setCell _ _ _ _ (fun e => hne e.symm)]
    exact h.hf
  · rw [Below.heap_setCell _ _ _ _ (fun e => hn (Or.inr e)), Below.heap_setCell _ _ _ _ (fun e => hn (Or.inl e))]
    exact h.kept.block g hg hn
set_option maxRecDepth 100000 in
set_option maxHeartbeats 8000000 in
theorem maxStep_any (i : Int) (a : Option Addr) (l c : Nat) (L : List Int) (bx bo bf : Nat) (od oe : Value) (pd : Option Addr) (md cd : Nat) (D : List Int) (B n : Nat) (xs ys : List Int) (w : World)
    (hL : RowAt .i64 w a l L) (hl : 0 < l) (hx : w.cell? ⟨bx, 2, none⟩ = some (.slice pd md cd)) (hD : RowAt .i8 w pd md D) (hin : ∀ z ∈ L, 0 ≤ z ∧ z < md) (hm : MaxAt B bo bf od oe n xs ys w) (hxo : bx ≠ bo) (hxf : bx ≠ bf) (hpo : ∀ x, pd = some x → x.block ≠ bo ∧ x.block ≠ bf) (hbx : bx < B) (hpd : ∀ x, pd = some x → x.block < B) (hob : bo < B) (hfb : bf < B) (hne : bo ≠ bf) (hn : n ≤ 10000) :
    Calls Try.prog 27 #[.int .i64 i, .slice a l c, .pointer (some ⟨bx, 0, none⟩), .pointer (some ⟨bo, 0, none⟩), .pointer (some ⟨bf, 0, none⟩)] w fun e w' => e = .returned (.tuple #[]) ∧ MaxAt B bo bf od oe (n + 1) (xs ++ [D.getD (T.best D (L.getD 0 0) L).toNat 0]) (ys ++ [T.best D (L.getD 0 0) L]) w' ∧ Kept B (fun g => g = bo ∨ g = bf) w w' := by
  obtain ⟨bb, hbb⟩ : ∃ bb, T.best D (L.getD 0 0) L = bb := ⟨_, rfl⟩
  obtain ⟨xx, hxx⟩ : ∃ xx, D.getD bb.toNat 0 = xx := ⟨_, rfl⟩
  rw [hbb, hxx]
  have HBB := Lib.hid hbb
  have HXX := Lib.hid hxx
  clear hbb hxx
  have H0 := Lib.hid hL
  have HD := Lib.hid hD
  have HIN := Lib.hid hin
  have HM := Lib.hid hm
  obtain ⟨b0, o0, rfl, e0⟩ := hL.cells hl
  have hll := hL.len_le
  have f0 := e0 0 hl
  rw [Nat.add_zero] at f0
  have HE := Lib.hid e0
  obtain ⟨z0, z1⟩ := hin (L.getD 0 0) (by
    have : 0 < L.length := by rw [hL.len_eq]; exact hl
    simp [List.getD, List.getElem?_eq_getElem this])
  obtain ⟨b1, o1, rfl, e1⟩ := hD.cells (by omega)
  have HE1 := Lib.hid e1
  have hb1B := hpd _ rfl
  simp only [] at hb1B
  obtain ⟨hpo1, hpo2⟩ := hpo _ rfl
  simp only [] at hpo1 hpo2
  have hox := hxo.symm
  have hfx := hxf.symm
  have hop1 := hpo1.symm
  have hop2 := hpo2.symm
  have hne2 := hne.symm
  clear e0 e1 hin hm hL hD
  go_enter Try.func27, Try.ntmps27
  go_wp2_with fail
  go_loopw [7, 15] (fun b i wr => ∃ j q : Nat, j ≤ l ∧ i = .int .i64 j ∧ b = .int .i64 (T.best D (L.getD 0 0) (L.take j)) ∧ wr = w.drewN q) (fun _ i _ => l - (intOf i).toNat)
  case atStart => exact ⟨0, 0, Nat.zero_le _, rfl, rfl, rfl⟩
  case round =>
    obtain ⟨j, q, hj, rfl, rfl, rfl⟩ := hrel
    have hb1 : 0 ≤ T.best D (L.getD 0 0) (L.take j) ∧ T.best D (L.getD 0 0) (L.take j) < md := by
      rcases T.best_mem D (L.take j) (L.getD 0 0) with e | e
      · rw [e]; exact ⟨z0, z1⟩
      · exact HIN.out _ (List.mem_of_mem_take e)
    obtain ⟨hb1, hb2⟩ := hb1
    have HB := Lib.hid (show T.best D (L.getD 0 0) (L.take j) = T.best D (L.getD 0 0) (L.take j) from rfl)
    by_cases hlt : j < l
    · have fj := HE.out j hlt
      have hjl : j < L.length := by rw [H0.out.len_eq]; exact hlt
      obtain ⟨a1, a2⟩ := HIN.out (L.getD j 0) (by simp [List.getD, List.getElem?_eq_getElem hjl])
      have hsn : T.best D (L.getD 0 0) (L.take (j + 1)) = if D.getD (T.best D (L.getD 0 0) (L.take j)).toNat 0 < D.getD (L.getD j 0).toNat 0 then L.getD j 0 else T.best D (L.getD 0 0) (L.take j) := by
        have e : L.getD j 0 = L[j] := by simp [List.getD, List.getElem?_eq_getElem hjl]
        rw [List.take_succ_eq_append_getElem hjl, T.best_snoc, e]
      have HSN := Lib.hid hsn
      clear hsn hjl HB
      have c1 := HE1.out (L.getD j 0).toNat (by omega)
      have c2 := HE1.out (T.best D (L.getD 0 0) (L.take j)).toNat (by omega)
      generalize T.best D (L.getD 0 0) (L.take j) = b at *
      generalize L.getD j 0 = at' at *
      by_cases hc : D.getD b.toNat 0 < D.getD at'.toNat 0
      · have hs2 := HSN.out
        rw [if_pos hc] at hs2
        have HS := Lib.hid hs2
        clear HSN hs2
        generalize D.getD b.toNat 0 = xb at *
        generalize D.getD at'.toNat 0 = xa at *
        go_wp2
        go_quiet (fail)
        go_wp2
        go_roundw
        case rel => exact ⟨j + 1, q + nq, by omega, by go_num, by rw [HS.out], rfl⟩
        case measure => simp [intOf]; omega
      · have hs2 := HSN.out
        rw [if_neg hc] at hs2
        have HS := Lib.hid hs2
        clear HSN hs2
        generalize D.getD b.toNat 0 = xb at *
        generalize D.getD at'.toNat 0 = xa at *
        have hc2 : decide (xb < xa) = false := decide_eq_false hc
        go_wp2
        go_quiet (fail)
        go_wp2
        go_roundw
        case rel => exact ⟨j + 1, q + nq, by omega, by go_num, by rw [HS.out], rfl⟩
        case measure => simp [intOf]; omega
    · obtain rfl : j = l := by omega
      have htk : L.take j = L := by rw [← H0.out.len_eq]; exact List.take_length
      rw [htk, HBB.out] at hb1 hb2 ⊢
      obtain ⟨vd, vf, ho, hf, ht⟩ := HM.out
      have HT := Lib.hid (ht.drewN q)
      have cb := HE1.out bb.toNat (by omega)
      rw [HXX.out] at cb
      have cb : (w.drewN q).cell? ⟨b1, o1 + bb.toNat, none⟩ = _ := cb
      clear htk HB HIN HBB HXX
      obtain ⟨b, rfl⟩ : ∃ b, b = bb := ⟨_, rfl⟩
      obtain ⟨xb, rfl⟩ : ∃ xb, xb = xx := ⟨_, rfl⟩
      have HO := Lib.hid (show (w.drewN q).heap[bo]? = _ from ho)
      have HF := Lib.hid (show (w.drewN q).heap[bf]? = _ from hf)
      have oc2 : (w.drewN q).cell? ⟨bo, 2, none⟩ = some vd := by show w.cell? _ = _; unfold World.cell?; simp [ho]
      have fc : (w.drewN q).cell? ⟨bf, 0, none⟩ = some vf := cell_of_one hf
      have xc : (w.drewN q).cell? ⟨bx, 2, none⟩ = some (.slice (some ⟨b1, o1, none⟩) md cd) := hx
      have HK := Lib.hid (show Kept B (fun g => g = bo ∨ g = bf) w (w.drewN q) from ⟨rfl, rfl, rfl, Nat.le_refl _, fun _ _ _ => rfl⟩)
      obtain ⟨i0, hi, hz0, hz1, hz2⟩ := info_parts info8
      obtain ⟨j0, ji, jz0, jz1, jz2⟩ := info_parts infoInt
      clear ho hf ht HM hx HE HE1 HD f0 H0
      generalize w.drewN q = wq at *
      go_wp2_with fail
      have nv := Lib.hid (fun g (h : g < B) (e : vd.ownBlock = some g) => show False from by have := (HT.out.fst.lt g e).1; omega)
      have nu := Lib.hid (fun g (h : g < B) (e : vf.ownBlock = some g) => show False from by have := (HT.out.snd.lt g e).1; omega)
      refine Lt.begins (fun w' : World => w'.cell? ⟨bo, 2, none⟩ = some vd ∧ w'.cell? ⟨bx, 2, none⟩ = some (.slice (some ⟨b1, o1, none⟩) md cd) ∧ w'.cell? ⟨bf, 0, none⟩ = some vf ∧ w'.cell? ⟨b1, o1 + b.toNat, none⟩ = some (.int .i8 xb)) (fun j => j == 14 || j == 15) (by kernel_rfl) ?_
      have HM0 := Lib.hid (show MSt wq wq.drew B bo bf bx b1 (o1 + b.toNat) od oe vd vf (.slice (some ⟨b1, o1, none⟩) md cd) (.int .i8 xb) vd n xs vf n ys from ⟨HT.out.drew, HO.out, HF.out, xc, cb, ⟨rfl, rfl, rfl, Nat.le_refl _, fun _ _ _ => rfl⟩⟩)
      generalize hw0 : wq.drew = w0 at *
      clear oc2 xc fc cb HO HF HT hw0
      have hS : (fun w' : World => w'.cell? ⟨bo, 2, none⟩ = some vd ∧ w'.cell? ⟨bx, 2, none⟩ = some (.slice (some ⟨b1, o1, none⟩) md cd) ∧ w'.cell? ⟨bf, 0, none⟩ = some vf ∧ w'.cell? ⟨b1, o1 + b.toNat, none⟩ = some (.int .i8 xb)) w0 := HM0.out.cells
      have ov := Lib.hid (fun g (e : vd.ownBlock = some g) => show g < w0.heap.size from (HM0.out.two.fst.lt g e).2)
      have z0 : w0.heap.size ≤ w0.heap.size := Nat.le_refl _
      generalize hH0 : w0.heap.size = H0 at ov z0
      have z0 : H0 ≤ w0.heap.size := by omega
      clear hH0
      refine Lt.take (i := 0) (v := ?_) rfl (by kernel_rfl) (fun _ _ _ h => h) (Or.inl ⟨by rfl, ?_⟩) hS ?_
      rotate_left
      · intro w' hw'
        obtain ⟨s1, s2, s3, s4⟩ := hw'
        go_simp
        try with_reducible rfl
      try simp only [Act.put, List.setIfInBounds_toArray, List.set_cons_zero, List.set_cons_succ]
      refine Lt.take (i := 1) (v := ?_) rfl (by kernel_rfl) (fun _ _ _ h => h) (Or.inl ⟨by rfl, ?_⟩) hS ?_
      rotate_left
      · intro w' hw'
        obtain ⟨s1, s2, s3, s4⟩ := hw'
        go_simp
        try with_reducible rfl
      try simp only [Act.put, List.setIfInBounds_toArray, List.set_cons_zero, List.set_cons_succ]
      refine Lt.take (i := 2) (v := ?_) rfl (by kernel_rfl) (fun _ _ _ h => h) (Or.inl ⟨by rfl, ?_⟩) hS ?_
      rotate_left
      · intro w' hw'
        obtain ⟨s1, s2, s3, s4⟩ := hw'
        go_simp
        try with_reducible rfl
      try simp only [Act.put, List.setIfInBounds_toArray, List.set_cons_zero, List.set_cons_succ]
      refine Lt.take (i := 3) (v := ?_) rfl (by kernel_rfl) (fun _ _ _ h => h) (Or.inl ⟨by rfl, ?_⟩) hS ?_
      rotate_left
      · intro w' hw'
        obtain ⟨s1, s2, s3, s4⟩ := hw'
        go_simp
        try with_reducible rfl
      try simp only [Act.put, List.setIfInBounds_toArray, List.set_cons_zero, List.set_cons_succ]
      refine Lt.take (i := 4) (v := ?_) rfl (by kernel_rfl) (fun _ _ _ h => h) (Or.inl ⟨by rfl, ?_⟩) hS ?_
      rotate_left
      · intro w' hw'
        obtain ⟨s1, s2, s3, s4⟩ := hw'
        go_simp
        try with_reducible rfl
      try simp only [Act.put, List.setIfInBounds_toArray, List.set_cons_zero, List.set_cons_succ]
      refine Lt.take (i := 5) (v := ?_) rfl (by kernel_rfl) (fun _ _ _ h => h) (Or.inl ⟨by rfl, ?_⟩) hS ?_
      rotate_left
      · intro w' hw'
        obtain ⟨s1, s2, s3, s4⟩ := hw'
        go_simp
        try with_reducible rfl
      try simp only [Act.put, List.setIfInBounds_toArray, List.set_cons_zero, List.set_cons_succ]
      refine Lt.take (i := 6) (v := ?_) rfl (by kernel_rfl) (fun _ _ _ h => h) (Or.inl ⟨by rfl, ?_⟩) hS ?_
      rotate_left
      · intro w' hw'
        obtain ⟨s1, s2, s3, s4⟩ := hw'
        go_simp
        try with_reducible rfl
      try simp only [Act.put, List.setIfInBounds_toArray, List.set_cons_zero, List.set_cons_succ]
      refine Lt.take (i := 9) (v := ?_) rfl (by kernel_rfl) (fun _ _ _ h => h) (Or.inl ⟨by rfl, ?_⟩) hS ?_
      rotate_left
      · intro w' hw'
        obtain ⟨s1, s2, s3, s4⟩ := hw'
        go_simp
        try with_reducible rfl
      try simp only [Act.put, List.setIfInBounds_toArray, List.set_cons_zero, List.set_cons_succ]
      refine Lt.take (i := 10) (v := ?_) rfl (by kernel_rfl) (fun _ _ _ h => h) (Or.inl ⟨by rfl, ?_⟩) hS ?_
      rotate_left
      · intro w' hw'
        obtain ⟨s1, s2, s3, s4⟩ := hw'
        go_simp
        try with_reducible rfl
      try simp only [Act.put, List.setIfInBounds_toArray, List.set_cons_zero, List.set_cons_succ]
      refine Lt.all (rs := [7, 11]) (by kernel_rfl) (by simp) ?_
      intro i hq
      rcases List.mem_cons.1 hq with rfl | hq
      · clear hq
        refine Lt.step rfl (fun K hK => ?_)
        go_simp
        refine hK.out _ _ ⟨fun _ => (HM0.out.alloc _).cells, ?_⟩
        clear hK K
        try simp only [Act.put, List.setIfInBounds_toArray, List.set_cons_zero, List.set_cons_succ]
        have HM1 := Lib.hid (HM0.out.alloc (Obj.cells #[.int .i8 xb] 37))
        have n1 : (w0.alloc (Obj.cells #[.int .i8 xb] 37)).cell? ⟨w0.heap.size, 0, none⟩ = some (.int .i8 xb) := new_one w0 _ _ 0 _ rfl
        have hS := HM1.out.cells
        have z1 : H0 ≤ w0.heap.size := z0
        have z1' : H0 ≤ (w0.alloc (Obj.cells #[.int .i8 xb] 37)).heap.size := by rw [World.size_alloc]; omega
        generalize w0.alloc (Obj.cells #[.int .i8 xb] 37) = wa1 at *
        generalize w0.heap.size = A1 at *
        refine Lt.all (rs := [8, 11]) (by kernel_rfl) (by simp) ?_
        intro i hq
        rcases List.mem_cons.1 hq with rfl | hq
        · clear hq
          refine Lt.step rfl (fun K hK => ?_)
          refine step_append_lies _ (by rfl) _ _ _ (by rfl) B 37 i0 _ 1 1 Try.underlying23 hi hz0 hz1 hz2 rfl (by omega) vd n (xs.map (Value.int .i8)) (by rfl) HM1.out.two.fst ⟨A1, 0, none⟩ 1 1 [.int .i8 xb] (by rfl) (by rfl) (news1 n1) (by simp [Value.oneCell']) (by omega) (by unfold maxLen; omega) (by omega) HM1.out.two.base _ rfl ?_
          intro g1 cap1 w1 hown1 hgrow1 hat1 hlt1
          have HMa := Lib.hid (HM1.out.one hob hfb hbx hb1B hown1 hgrow1 hat1)
          refine hK.out _ _ ⟨fun _ => HMa.out.cells, ?_⟩
          clear hK K
          try simp only [Act.put, List.setIfInBounds_toArray, List.set_cons_zero, List.set_cons_succ]
          have hS := HMa.out.cells
          have zw : H0 ≤ w1.heap.size := Nat.le_trans z1' hgrow1.size
          clear hown1 hgrow1 hat1 hlt1
          refine Lt.take (i := 13) (v := ?_) rfl (by kernel_rfl) (fun _ _ _ h => h) (Or.inl ⟨by rfl, ?_⟩) hS ?_
          rotate_left
          · intro w' hw'
            obtain ⟨s1, s2, s3, s4⟩ := hw'
            go_simp
            try with_reducible rfl
          try simp only [Act.put, List.setIfInBounds_toArray, List.set_cons_zero, List.set_cons_succ]
          refine Lt.all (rs := [11]) (by kernel_rfl) (by simp) ?_
          intro i hq
          obtain rfl : i = 11 := by simpa using hq
          clear hq
          refine Lt.step rfl (fun K hK => ?_)
          go_simp
          refine hK.out _ _ ⟨fun _ => (HMa.out.alloc _).cells, ?_⟩
          clear hK K
          try simp only [Act.put, List.setIfInBounds_toArray, List.set_cons_zero, List.set_cons_succ]
          have HM2 := Lib.hid (HMa.out.alloc (Obj.cells #[.int .i64 b] 3))
          have n2 : (w1.alloc (Obj.cells #[.int .i64 b] 3)).cell? ⟨w1.heap.size, 0, none⟩ = some (.int .i64 b) := new_one w1 _ _ 0 _ rfl
          have hS := HM2.out.cells
          have z2 : H0 ≤ w1.heap.size := zw
          have z2' : H0 ≤ (w1.alloc (Obj.cells #[.int .i64 b] 3)).heap.size := by rw [World.size_alloc]; omega
          generalize w1.alloc (Obj.cells #[.int .i64 b] 3) = wa2 at *
          generalize w1.heap.size = A2 at *
          refine Lt.all (rs := [12]) (by kernel_rfl) (by simp) ?_
          intro i hq
          obtain rfl : i = 12 := by simpa using hq
          clear hq
          refine Lt.step rfl (fun K hK => ?_)
          refine step_append_lies _ (by rfl) _ _ _ (by rfl) B 3 j0 _ 1 8 Try.underlying22 ji jz0 jz1 jz2 rfl (by omega) vf n (ys.map (Value.int .i64)) (by rfl) HM2.out.two.snd ⟨A2, 0, none⟩ 1 1 [.int .i64 b] (by rfl) (by rfl) (news1 n2) (by simp [Value.oneCell']) (by omega) (by unfold maxLen; omega) (by omega) HM2.out.two.base _ rfl ?_
          intro g2 cap2 w2 hown2 hgrow2 hat2 hlt2
          have HMb := Lib.hid (HM2.out.snd hob hfb hbx hb1B hown2 hgrow2 hat2)
          refine hK.out _ _ ⟨fun _ => HMb.out.cells, ?_⟩
          clear hK K
          try simp only [Act.put, List.setIfInBounds_toArray, List.set_cons_zero, List.set_cons_succ]
          clear hS hown2 hgrow2 hat2 hlt2
          refine Lt.all (rs := [14]) (by kernel_rfl) (by simp) ?_
          intro i hq
          obtain rfl : i = 14 := by simpa using hq
          clear hq
          obtain ⟨oc3, _, fc3, _⟩ := HMb.out.cells
          have zo : w2.frozen? ⟨bo, 2, none⟩ = false := by have := HMb.out.ho; simp [World.frozen?, this]
          refine Lt.step rfl (fun K hK => ?_)
          go_simp
          refine hK.out _ _ ⟨fun h => absurd h (by decide), ?_⟩
          clear hK K oc3 fc3 zo
          try simp only [Act.put, List.setIfInBounds_toArray, List.set_cons_zero, List.set_cons_succ]
          have hf3 : (w2.setCell ⟨bo, 2, none⟩ (.slice (some ⟨g1, 0, none⟩) (n + 1) cap1)).heap[bf]? = some (.cells #[vf] 22 (0, 0)) := by
            rw [Below.heap_setCell _ _ _ _ (fun e => hne e.symm)]
            exact HMb.out.hf
          have HST := Lib.hid (HMb.out.stored hob hfb hne)
          generalize w2.setCell ⟨bo, 2, none⟩ (.slice (some ⟨g1, 0, none⟩) (n + 1) cap1) = w3 at *
          have fc4 := cell_of_one hf3
          have zf := free_of_one hf3
          clear hf3
          refine Lt.all (rs := [15]) (by kernel_rfl) (by simp) ?_
          intro i hq
          obtain rfl : i = 15 := by simpa using hq
          clear hq
          refine Lt.step rfl (fun K hK => ?_)
          go_simp
          refine hK.out _ _ ⟨fun h => absurd h (by decide), ?_⟩
          clear hK K fc4 zf
          try simp only [Act.put, List.setIfInBounds_toArray, List.set_cons_zero, List.set_cons_succ]
          refine Lt.over (by kernel_rfl) ?_ _
          go_wp2
          go_end0
          exact ⟨rfl, HST.out.1, HK.out.trans HST.out.2⟩
        · obtain rfl : i = 11 := by simpa using hq
          clear hq
          refine Lt.step rfl (fun K hK => ?_)
          go_simp
          refine hK.out _ _ ⟨fun _ => (HM1.out.alloc _).cells, ?_⟩
          clear hK K
          try simp only [Act.put, List.setIfInBounds_toArray, List.set_cons_zero, List.set_cons_succ]
          have HM2 := Lib.hid (HM1.out.alloc (Obj.cells #[.int .i64 b] 3))
          have n2 : (wa1.alloc (Obj.cells #[.int .i64 b] 3)).cell? ⟨wa1.heap.size, 0, none⟩ = some (.int .i64 b) := new_one wa1 _ _ 0 _ rfl
          have n1 := (below_alloc wa1 (Obj.cells #[.int .i64 b] 3)).cell_of n1
          have hS := HM2.out.cells
          have z2 : H0 ≤ wa1.heap.size := z1'
          have z2' : H0 ≤ (wa1.alloc (Obj.cells #[.int .i64 b] 3)).heap.size := by rw [World.size_alloc]; omega
          generalize wa1.alloc (Obj.cells #[.int .i64 b] 3) = wa2 at *
          generalize wa1.heap.size = A2 at *
          refine Lt.all (rs := [8]) (by kernel_rfl) (by simp) ?_
          intro i hq
          obtain rfl : i = 8 := by simpa using hq
          clear hq
          refine Lt.step rfl (fun K hK => ?_)
          refine step_append_lies _ (by rfl) _ _ _ (by rfl) B 37 i0 _ 1 1 Try.underlying23 hi hz0 hz1 hz2 rfl (by omega) vd n (xs.map (Value.int .i8)) (by rfl) HM2.out.two.fst ⟨A1, 0, none⟩ 1 1 [.int .i8 xb] (by rfl) (by rfl) (news1 n1) (by simp [Value.oneCell']) (by omega) (by unfold maxLen; omega) (by omega) HM2.out.two.base _ rfl ?_
          intro g1 cap1 w1 hown1 hgrow1 hat1 hlt1
          have HMa := Lib.hid (HM2.out.one hob hfb hbx hb1B hown1 hgrow1 hat1)
          refine hK.out _ _ ⟨fun _ => HMa.out.cells, ?_⟩
          clear hK K
          try simp only [Act.put, List.setIfInBounds_toArray, List.set_cons_zero, List.set_cons_succ]
          have n2 := grown_cell hgrow1 n2 (fun e => by have := ov.out _ e; omega)
          have hS := HMa.out.cells
          have zw : H0 ≤ w1.heap.size := Nat.le_trans z2' hgrow1.size
          clear hown1 hgrow1 hat1 hlt1
          refine Lt.take (i := 13) (v := ?_) rfl (by kernel_rfl) (fun _ _ _ h => h) (Or.inl ⟨by rfl, ?_⟩) hS ?_
          rotate_left
          · intro w' hw'
            obtain ⟨s1, s2, s3, s4⟩ := hw'
            go_simp
            try with_reducible rfl
          try simp only [Act.put, List.setIfInBounds_toArray, List.set_cons_zero, List.set_cons_succ]
          refine Lt.all (rs := [12]) (by kernel_rfl) (by simp) ?_
          intro i hq
          obtain rfl : i = 12 := by simpa using hq
          clear hq
          refine Lt.step rfl (fun K hK => ?_)
          refine step_append_lies _ (by rfl) _ _ _ (by rfl) B 3 j0 _ 1 8 Try.underlying22 ji jz0 jz1 jz2 rfl (by omega) vf n (ys.map (Value.int .i64)) (by rfl) HMa.out.two.snd ⟨A2, 0, none⟩ 1 1 [.int .i64 b] (by rfl) (by rfl) (news1 n2) (by simp [Value.oneCell']) (by omega) (by unfold maxLen; omega) (by omega) HMa.out.two.base _ rfl ?_
          intro g2 cap2 w2 hown2 hgrow2 hat2 hlt2
          have HMb := Lib.hid (HMa.out.snd hob hfb hbx hb1B hown2 hgrow2 hat2)
          refine hK.out _ _ ⟨fun _ => HMb.out.cells, ?_⟩
          clear hK K
          try simp only [Act.put, List.setIfInBounds_toArray, List.set_cons_zero, List.set_cons_succ]
          clear hS hown2 hgrow2 hat2 hlt2
          refine Lt.all (rs := [14]) (by kernel_rfl) (by simp) ?_
          intro i hq
          obtain rfl : i = 14 := by simpa using hq
          clear hq
          obtain ⟨oc3, _, fc3, _⟩ := HMb.out.cells
          have zo : w2.frozen? ⟨bo, 2, none⟩ = false := by have := HMb.out.ho; simp [World.frozen?, this]
          refine Lt.step rfl (fun K hK => ?_)
          go_simp
          refine hK.out _ _ ⟨fun h => absurd h (by decide), ?_⟩
          clear hK K oc3 fc3 zo
          try simp only [Act.put, List.setIfInBounds_toArray, List.set_cons_zero, List.set_cons_succ]
          have hf3 : (w2.setCell ⟨bo, 2, none⟩ (.slice (some ⟨g1, 0, none⟩) (n + 1) cap1)).heap[bf]? = some (.cells #[vf] 22 (0, 0)) := by
            rw [Below.heap_setCell _ _ _ _ (fun e => hne e.symm)]
            exact HMb.out.hf
          have HST := Lib.hid (HMb.out.stored hob hfb hne)
          generalize w2.setCell ⟨bo, 2, none⟩ (.slice (some ⟨g1, 0, none⟩) (n + 1) cap1) = w3 at *
          have fc4 := cell_of_one hf3
          have zf := free_of_one hf3
          clear hf3
          refine Lt.all (rs := [15]) (by kernel_rfl) (by simp) ?_
          intro i hq
          obtain rfl : i = 15 := by simpa using hq
          clear hq
          refine Lt.step rfl (fun K hK => ?_)
          go_simp
          refine hK.out _ _ ⟨fun h => absurd h (by decide), ?_⟩
          clear hK K fc4 zf
          try simp only [Act.put, List.setIfInBounds_toArray, List.set_cons_zero, List.set_cons_succ]
          refine Lt.over (by kernel_rfl) ?_ _
          go_wp2
          go_end0
          exact ⟨rfl, HST.out.1, HK.out.trans HST.out.2⟩
      · obtain rfl : i = 11 := by simpa using hq
        clear hq
        refine Lt.step rfl (fun K hK => ?_)
        go_simp
        refine hK.out _ _ ⟨fun _ => (HM0.out.alloc _).cells, ?_⟩
        clear hK K
        try simp only [Act.put, List.setIfInBounds_toArray, List.set_cons_zero, List.set_cons_succ]
        have HM1 := Lib.hid (HM0.out.alloc (Obj.cells #[.int .i64 b] 3))
        have n2 : (w0.alloc (Obj.cells #[.int .i64 b] 3)).cell? ⟨w0.heap.size, 0, none⟩ = some (.int .i64 b) := new_one w0 _ _ 0 _ rfl
        have hS := HM1.out.cells
        have z2 : H0 ≤ w0.heap.size := z0
        have z2' : H0 ≤ (w0.alloc (Obj.cells #[.int .i64 b] 3)).heap.size := by rw [World.size_alloc]; omega
        generalize w0.alloc (Obj.cells #[.int .i64 b] 3) = wa1 at *
        generalize w0.heap.size = A2 at *
        refine Lt.all (rs := [7]) (by kernel_rfl) (by simp) ?_
        intro i hq
        obtain rfl : i = 7 := by simpa using hq
        clear hq
        refine Lt.step rfl (fun K hK => ?_)
        go_simp
        refine hK.out _ _ ⟨fun _ => (HM1.out.alloc _).cells, ?_⟩
        clear hK K
        try simp only [Act.put, List.setIfInBounds_toArray, List.set_cons_zero, List.set_cons_succ]
        have HM2 := Lib.hid (HM1.out.alloc (Obj.cells #[.int .i8 xb] 37))
        have n1 : (wa1.alloc (Obj.cells #[.int .i8 xb] 37)).cell? ⟨wa1.heap.size, 0, none⟩ = some (.int .i8 xb) := new_one wa1 _ _ 0 _ rfl
        have n2 := (below_alloc wa1 (Obj.cells #[.int .i8 xb] 37)).cell_of n2
        have hS := HM2.out.cells
        have z1 : H0 ≤ wa1.heap.size := z2'
        have z1' : H0 ≤ (wa1.alloc (Obj.cells #[.int .i8 xb] 37)).heap.size := by rw [World.size_alloc]; omega
        generalize wa1.alloc (Obj.cells #[.int .i8 xb] 37) = wa2 at *
        generalize wa1.heap.size = A1 at *
        refine Lt.all (rs := [8]) (by kernel_rfl) (by simp) ?_
        intro i hq
        obtain rfl : i = 8 := by simpa using hq
        clear hq
        refine Lt.step rfl (fun K hK => ?_)
        refine step_append_lies _ (by rfl) _ _ _ (by rfl) B 37 i0 _ 1 1 Try.underlying23 hi hz0 hz1 hz2 rfl (by omega) vd n (xs.map (Value.int .i8)) (by rfl) HM2.out.two.fst ⟨A1, 0, none⟩ 1 1 [.int .i8 xb] (by rfl) (by rfl) (news1 n1) (by simp [Value.oneCell']) (by omega) (by unfold maxLen; omega) (by omega) HM2.out.two.base _ rfl ?_
        intro g1 cap1 w1 hown1 hgrow1 hat1 hlt1
        have HMa := Lib.hid (HM2.out.one hob hfb hbx hb1B hown1 hgrow1 hat1)
        refine hK.out _ _ ⟨fun _ => HMa.out.cells, ?_⟩
        clear hK K
        try simp only [Act.put, List.setIfInBounds_toArray, List.set_cons_zero, List.set_cons_succ]
        have n2 := grown_cell hgrow1 n2 (fun e => by have := ov.out _ e; omega)
        have hS := HMa.out.cells
        have zw : H0 ≤ w1.heap.size := Nat.le_trans z1' hgrow1.size
        clear hown1 hgrow1 hat1 hlt1
        refine Lt.take (i := 13) (v := ?_) rfl (by kernel_rfl) (fun _ _ _ h => h) (Or.inl ⟨by rfl, ?_⟩) hS ?_
        rotate_left
        · intro w' hw'
          obtain ⟨s1, s2, s3, s4⟩ := hw'
          go_simp
          try with_reducible rfl
        try simp only [Act.put, List.setIfInBounds_toArray, List.set_cons_zero, List.set_cons_succ]
        refine Lt.all (rs := [12]) (by kernel_rfl) (by simp) ?_
        intro i hq
        obtain rfl : i = 12 := by simpa using hq
        clear hq
        refine Lt.step rfl (fun K hK => ?_)
        refine step_append_lies _ (by rfl) _ _ _ (by rfl) B 3 j0 _ 1 8 Try.underlying22 ji jz0 jz1 jz2 rfl (by omega) vf n (ys.map (Value.int .i64)) (by rfl) HMa.out.two.snd ⟨A2, 0, none⟩ 1 1 [.int .i64 b] (by rfl) (by rfl) (news1 n2) (by simp [Value.oneCell']) (by omega) (by unfold maxLen; omega) (by omega) HMa.out.two.base _ rfl ?_
        intro g2 cap2 w2 hown2 hgrow2 hat2 hlt2
        have HMb := Lib.hid (HMa.out.snd hob hfb hbx hb1B hown2 hgrow2 hat2)
        refine hK.out _ _ ⟨fun _ => HMb.out.cells, ?_⟩
        clear hK K
        try simp only [Act.put, List.setIfInBounds_toArray, List.set_cons_zero, List.set_cons_succ]
        clear hS hown2 hgrow2 hat2 hlt2
        refine Lt.all (rs := [14]) (by kernel_rfl) (by simp) ?_
        intro i hq
        obtain rfl : i = 14 := by simpa using hq
        clear hq
        obtain ⟨oc3, _, fc3, _⟩ := HMb.out.cells
        have zo : w2.frozen? ⟨bo, 2, none⟩ = false := by have := HMb.out.ho; simp [World.frozen?, this]
        refine Lt.step rfl (fun K hK => ?_)
        go_simp
        refine hK.out _ _ ⟨fun h => absurd h (by decide), ?_⟩
        clear hK K oc3 fc3 zo
        try simp only [Act.put, List.setIfInBounds_toArray, List.set_cons_zero, List.set_cons_succ]
        have hf3 : (w2.setCell ⟨bo, 2, none⟩ (.slice (some ⟨g1, 0, none⟩) (n + 1) cap1)).heap[bf]? = some (.cells #[vf] 22 (0, 0)) := by
          rw [Below.heap_setCell _ _ _ _ (fun e => hne e.symm)]
          exact HMb.out.hf
        have HST := Lib.hid (HMb.out.stored hob hfb hne)
        generalize w2.setCell ⟨bo, 2, none⟩ (.slice (some ⟨g1, 0, none⟩) (n + 1) cap1) = w3 at *
        have fc4 := cell_of_one hf3
        have zf := free_of_one hf3
        clear hf3
        refine Lt.all (rs := [15]) (by kernel_rfl) (by simp) ?_
        intro i hq
        obtain rfl : i = 15 := by simpa using hq
        clear hq
        refine Lt.step rfl (fun K hK => ?_)
        go_simp
        refine hK.out _ _ ⟨fun h => absurd h (by decide), ?_⟩
        clear hK K fc4 zf
        try simp only [Act.put, List.setIfInBounds_toArray, List.set_cons_zero, List.set_cons_succ]
        refine Lt.over (by kernel_rfl) ?_ _
        go_wp2
        go_end0
        exact ⟨rfl, HST.out.1, HK.out.trans HST.out.2⟩
end Go.Proofs.Ytaijiihlkcbdhaa
