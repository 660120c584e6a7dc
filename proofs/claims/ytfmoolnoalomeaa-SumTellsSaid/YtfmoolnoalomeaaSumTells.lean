/-
  The walk of SumTells: bytes that differ within four side by side have unlike sums.
-/
import Derived.Test.YtfmoolnoalomeaaSumLines
import Derived.Deep.RegionHeld
namespace Go.Proofs.Ytfmoolnoalomeaa
open Go.RowKit
set_option linter.unusedVariables false

/-- The bytes with the first k of those four changed. -/
def tellTo (zs by' : List Int) (t k : Nat) : List Int := (List.range zs.length).map fun j => if t ≤ j ∧ j < t + k then bits .xor .u8 (zs.getD j 0) (by'.getD (j - t) 0) else zs.getD j 0
theorem tellTo_zero (zs by' : List Int) (t : Nat) : tellTo zs by' t 0 = zs := by
  apply List.ext_getElem
  · simp [tellTo]
  · intro i h1 h2
    simp only [tellTo, List.getElem_map, List.getElem_range]
    rw [if_neg (by omega)]
    simp [List.getD, List.getElem?_eq_getElem h2]
theorem tellTo_set (zs by' : List Int) (t k : Nat) : (tellTo zs by' t k).set (t + k) (bits .xor .u8 (zs.getD (t + k) 0) (by'.getD k 0)) = tellTo zs by' t (k + 1) := by
  apply List.ext_getElem
  · simp [tellTo]
  · intro i h1 h2
    rw [List.getElem_set]
    simp only [tellTo, List.getElem_map, List.getElem_range]
    by_cases h : t + k = i
    · subst h
      rw [if_pos rfl, if_pos (by omega), Nat.add_sub_cancel_left]
    · rw [if_neg h]
      by_cases h' : t ≤ i ∧ i < t + k
      · rw [if_pos h', if_pos (by omega)]
      · rw [if_neg h', if_neg (by omega)]
theorem tell_get {zs by' : List Int} {t k n : Nat} (hz : zs.length = n) (h : t + k < n) : (tellTo zs by' t k)[t + k]? = some (zs.getD (t + k) 0) := by
  have hl : t + k < (tellTo zs by' t k).length := by simp [tellTo]; omega
  rw [List.getElem?_eq_getElem hl]
  simp only [tellTo, List.getElem_map, List.getElem_range]
  rw [if_neg (by omega)]
theorem tell_start {w2 : World} {B g n c' : Nat} {zs by' : List Int} {t : Nat} (h : w2.ownsRow B 5 1 (.slice (some ⟨g, 0, none⟩) n c') n (zs.map (Value.int .u8))) :
    w2.ownsRow B 5 1 (.slice (some ⟨g, 0, none⟩) n c') n ((tellTo zs by' t 0).map (Value.int .u8)) := by
  rw [tellTo_zero]
  exact h
theorem tell_step {w : World} {B g n c' : Nat} {zs by' : List Int} {t k : Nat} {x0 x1 : Int} (h : w.ownsRow B 5 1 (.slice (some ⟨g, 0, none⟩) n c') n ((tellTo zs by' t k).map (Value.int .u8))) (h0 : zs.getD (t + k) 0 = x0) (h1 : by'.getD k 0 = x1) :
    (w.setCell ⟨g, t + k, none⟩ (.int .u8 (bits .xor .u8 x0 x1))).drew.ownsRow B 5 1 (.slice (some ⟨g, 0, none⟩) n c') n ((tellTo zs by' t (k + 1)).map (Value.int .u8)) := by
  subst h0 h1
  have := (h.stored (t + k) (.int .u8 (bits .xor .u8 (zs.getD (t + k) 0) (by'.getD k 0)))).1
  rw [← List.map_set, tellTo_set] at this
  exact this.drew
theorem tell_box {w : World} {B g o : Nat} {u : Value} {f : Nat → Value} (h : ∀ j, j < 4 → w.cell? ⟨B, j, none⟩ = some (f j)) (hg : B + 1 ≤ g) : ∀ j, j < 4 → ((w.setCell ⟨g, o, none⟩ u).drew).cell? ⟨B, j, none⟩ = some (f j) := by
  intro j hj
  show (w.setCell ⟨g, o, none⟩ u).cell? ⟨B, j, none⟩ = _
  rw [World.cell?_setCell_far _ _ _ _ (by simp; omega)]
  exact h j hj

/-! ### The plain law -/
theorem byte_inj {a b : Int} (ha : (Lit.int .u8 a).wf = true) (hb : (Lit.int .u8 b).wf = true) (h : BitVec.ofInt 32 a = BitVec.ofInt 32 b) : a = b := by
  obtain ⟨a0, a1⟩ := bounds_u8 ha
  obtain ⟨b0, b1⟩ := bounds_u8 hb
  have := Crc.byte_of a0 a1
  have := Crc.byte_of b0 b1
  rw [h] at *
  omega
theorem byte_lt {a : Int} (ha : (Lit.int .u8 a).wf = true) : (BitVec.ofInt 32 a).toNat < 256 := by
  obtain ⟨a0, a1⟩ := bounds_u8 ha
  have := Crc.byte_of a0 a1
  omega
theorem four_of : ∀ (m : List (BitVec 32)), m.length ≤ 4 → (∀ d ∈ m, d.toNat < 256) → Crc.run 0#32 m = 0#32 → ∀ d ∈ m, d = 0#32 := by
  intro m hm hlt h
  have h4 : Crc.run 0#32 (m ++ List.replicate (4 - m.length) 0#32) = 0#32 := by
    rw [Crc.run_append, h, Crc.run_zeros_zero]
  match m, hm, hlt with
  | [], _, _ => intro d hd; cases hd
  | [d0], _, hlt =>
    have := Crc.run_four d0 0#32 0#32 0#32 (hlt _ (by simp)) (by decide) (by decide) (by decide) h4
    simp [this.1]
  | [d0, d1], _, hlt =>
    have := Crc.run_four d0 d1 0#32 0#32 (hlt _ (by simp)) (hlt _ (by simp)) (by decide) (by decide) h4
    simp [this.1, this.2.1]
  | [d0, d1, d2], _, hlt =>
    have := Crc.run_four d0 d1 d2 0#32 (hlt _ (by simp)) (hlt _ (by simp)) (hlt _ (by simp)) (by decide) h4
    simp [this.1, this.2.1, this.2.2.1]
  | [d0, d1, d2, d3], _, hlt =>
    have := Crc.run_four d0 d1 d2 d3 (hlt _ (by simp)) (hlt _ (by simp)) (hlt _ (by simp)) (hlt _ (by simp)) h4
    simp [this.1, this.2.1, this.2.2.1, this.2.2.2]
  | _ :: _ :: _ :: _ :: _ :: _, hm, _ => simp at hm
/-- Rows that differ only within four side by side, with one sum, are one. -/
theorem run_within (D : List (BitVec 32)) (t : Nat) (hlt : ∀ d ∈ D, d.toNat < 256) (hout : ∀ i (h : i < D.length), i < t ∨ t + 4 ≤ i → D[i] = 0#32) (h : Crc.run 0#32 D = 0#32) : ∀ d ∈ D, d = 0#32 := by
  have e : D = D.take t ++ ((D.drop t).take 4 ++ (D.drop t).drop 4) := by rw [List.take_append_drop, List.take_append_drop]
  have e1 : D.take t = List.replicate (D.take t).length 0#32 := by
    apply List.ext_getElem
    · simp
    · intro i h1 h2
      rw [List.getElem_take, List.getElem_replicate]
      exact hout i (by simp at h1; omega) (Or.inl (by simp at h1; omega))
  have e3 : (D.drop t).drop 4 = List.replicate ((D.drop t).drop 4).length 0#32 := by
    apply List.ext_getElem
    · simp
    · intro i h1 h2
      rw [List.getElem_drop, List.getElem_drop, List.getElem_replicate]
      exact hout _ (by simp at h1; omega) (Or.inr (by omega))
  have hm : ∀ d ∈ (D.drop t).take 4, d = 0#32 := by
    refine four_of _ (by simp; omega) (fun d hd => hlt d (List.mem_of_mem_drop (List.mem_of_mem_take hd))) ?_
    rw [e, Crc.run_append, Crc.run_append, e1, Crc.run_zeros_zero, e3] at h
    exact Crc.run_zeros _ _ h
  intro d hd
  rw [e] at hd
  rcases List.mem_append.1 hd with hd | hd
  · rw [e1] at hd; exact List.eq_of_mem_replicate hd
  · rcases List.mem_append.1 hd with hd | hd
    · exact hm d hd
    · rw [e3] at hd; exact List.eq_of_mem_replicate hd
theorem of_eq_iff (xs ys : List Int) (t : Nat) (hl : xs.length = ys.length) (wx : ∀ z ∈ xs, (Lit.int .u8 z).wf = true) (wy : ∀ z ∈ ys, (Lit.int .u8 z).wf = true) (hout : ∀ i, i < xs.length → i < t ∨ t + 4 ≤ i → xs.getD i 0 = ys.getD i 0)
    (h : Crc.of xs = Crc.of ys) : xs = ys := by
  have h1 : Crc.run Crc.start (xs.map (BitVec.ofInt 32)) = Crc.run Crc.start (ys.map (BitVec.ofInt 32)) := by
    have := congrArg (fun x => ~~~x) h
    simpa [Crc.of] using this
  have h2 := Crc.run_xor (xs.map (BitVec.ofInt 32)) (ys.map (BitVec.ofInt 32)) Crc.start Crc.start (by simp [hl])
  rw [h1, BitVec.xor_self, BitVec.xor_self] at h2
  have hz := run_within _ t ?_ ?_ h2
  · apply List.ext_getElem hl
    intro i hi hj
    have hd := hz (BitVec.ofInt 32 xs[i] ^^^ BitVec.ofInt 32 ys[i]) (by
      rw [List.mem_iff_getElem]
      exact ⟨i, by simp; omega, by simp⟩)
    exact byte_inj (wx _ (List.getElem_mem _)) (wy _ (List.getElem_mem _)) (Crc.xor_back hd)
  · intro d hd
    obtain ⟨i, hi, rfl⟩ := List.mem_iff_getElem.1 hd
    rw [List.getElem_zipWith]
    simp only [List.length_zipWith, List.length_map] at hi
    have := Crc.lt_xor (k := 8) (byte_lt (wx (xs[i]'(by omega)) (List.getElem_mem _))) (byte_lt (wy (ys[i]'(by omega)) (List.getElem_mem _)))
    simpa using this
  · intro i hi ho
    simp only [List.length_zipWith, List.length_map] at hi
    have e := hout i (by omega) ho
    simp only [List.getD, List.getElem?_eq_getElem (show i < xs.length by omega), List.getElem?_eq_getElem (show i < ys.length by omega), Option.getD_some] at e
    simp [e]
theorem length_tellTo (zs by' : List Int) (t k : Nat) : (tellTo zs by' t k).length = zs.length := by simp [tellTo]
theorem tell_wf {zs by' : List Int} {t k : Nat} (w : ∀ z ∈ zs, (Lit.int .u8 z).wf = true) : ∀ z ∈ tellTo zs by' t k, (Lit.int .u8 z).wf = true := by
  intro z hz
  obtain ⟨i, hi, rfl⟩ := List.mem_map.1 hz
  split
  · exact xor_u8_wf _ _
  · exact getD_wf w (List.mem_range.1 hi)
theorem str_eq {xs ys : List Int} (wx : ∀ z ∈ xs, (Lit.int .u8 z).wf = true) (wy : ∀ z ∈ ys, (Lit.int .u8 z).wf = true) (h : (strOfNums xs).toList = (strOfNums ys).toList) : xs = ys := by
  rw [ByteArray.toList_eq, ByteArray.toList_eq, strOfNums_data, strOfNums_data] at h
  have hl : xs.length = ys.length := by simpa using congrArg List.length h
  apply List.ext_getElem hl
  intro i hi hj
  have e := congrArg (fun l => l[i]?) h
  simp only [List.getElem?_map, List.getElem?_eq_getElem hi, List.getElem?_eq_getElem hj, Option.map_some, Option.some.injEq] at e
  obtain ⟨a0, a1⟩ := bounds_u8 (wx _ (List.getElem_mem hi))
  obtain ⟨b0, b1⟩ := bounds_u8 (wy _ (List.getElem_mem hj))
  have e' := congrArg UInt8.toNat e
  simp at e'
  omega
theorem tells_law (zs by' : List Int) (t k : Nat) (hk : k ≤ 4) (wz : ∀ z ∈ zs, (Lit.int .u8 z).wf = true) :
    ((((Crc.of zs).toNat : Int) == ((Crc.of (tellTo zs by' t k)).toNat : Int)) == ((strOfNums zs).toList == (strOfNums (tellTo zs by' t k)).toList)) = true := by
  by_cases h : zs = tellTo zs by' t k
  · rw [← h]; simp
  · have h1 : (((Crc.of zs).toNat : Int) == ((Crc.of (tellTo zs by' t k)).toNat : Int)) = false := by
      rw [beq_eq_false_iff_ne]
      intro e
      refine h (of_eq_iff zs _ t (length_tellTo _ _ _ _).symm wz (tell_wf wz) ?_ (BitVec.eq_of_toNat_eq (by omega)))
      intro i hi ho
      simp only [tellTo]
      rw [List.getD, List.getD, List.getElem?_map, List.getElem?_range hi, Option.map_some, Option.getD_some, if_neg (by omega)]
      rfl
    have h2 : ((strOfNums zs).toList == (strOfNums (tellTo zs by' t k)).toList) = false := by
      rw [beq_eq_false_iff_ne]
      exact fun e => h (str_eq wz (tell_wf wz) e)
    rw [h1, h2]; rfl
theorem made_empty (w : World) (o : Obj) : ((w.alloc o).alloc (.cells #[] 5)).ownsRow (w.heap.size + 1) 5 1 (.slice (some ⟨w.heap.size + 1, 0, none⟩) 0 0) 0 [] := by
  have h := World.ownsRow_made (w := w.alloc o) (base := w.heap.size + 1) (e := 5) (size := 1) #[] 0 (by simp) (Nat.zero_le _) rfl
  rw [World.size_alloc] at h
  exact h
theorem cells_take2 {w : World} {b off len0 : Nat} {zs : List Int} (hc : ∀ j, j < len0 → w.cell? ⟨b, off + j, none⟩ = some (.int .u8 (zs.getD j 0))) (o1 o2 : Obj) (hz : zs.length = len0) :
    ∀ j u, (zs.map (Value.int .u8))[j]? = some u → ((w.alloc o1).alloc o2).cell? ((⟨b, off, none⟩ : Addr).add j) = some u := by
  intro j u hu
  have hj : j < len0 := by have := (List.getElem?_eq_some_iff.1 hu).1; simpa [hz] using this
  have h1 := hc j hj
  have hlt := World.block_lt_of_cell? w _ h1
  rw [Addr.add_lit, World.cell?_alloc_lt _ _ _ (by rw [World.size_alloc]; exact Nat.lt_succ_of_lt hlt), World.cell?_alloc_lt _ _ _ (by exact hlt), h1]
  rw [List.getElem?_map, List.getElem?_eq_getElem (by omega)] at hu
  simpa [List.getD, List.getElem?_eq_getElem (show j < zs.length by omega)] using hu

/-- The array's box stays. -/
theorem box_kept {w w2 : World} {b0 b1 b2 b3 : Int} {o : Obj} (hg : ((w.alloc (.cells #[.int .u8 b0, .int .u8 b1, .int .u8 b2, .int .u8 b3] 27)).alloc o).grownBy w2 (Value.ownBlock (.slice (some ⟨w.heap.size + 1, 0, none⟩) 0 0))) :
    ∀ j, j < 4 → w2.cell? ⟨w.heap.size, j, none⟩ = some (.int .u8 ([b0, b1, b2, b3].getD j 0)) := by
  intro j hj
  refine hg.cell ?_ (by simp [Value.ownBlock])
  rw [World.cell?_alloc_lt _ _ _ (by simp), World.cell?_alloc_new]
  match j, hj with
  | 0, _ => rfl
  | 1, _ => rfl
  | 2, _ => rfl
  | 3, _ => rfl

theorem below_kept {w w2 : World} {o1 o : Obj} (hg : ((w.alloc o1).alloc o).grownBy w2 (Value.ownBlock (.slice (some ⟨w.heap.size + 1, 0, none⟩) 0 0))) : Below w.heap.size w w2 := by
  refine (((Below.refl _ w).alloc (Nat.le_refl _) o1).alloc ?_ o).grown hg ?_ ?_
  · rw [World.size_alloc]; omega
  · rw [World.size_alloc, World.size_alloc]; omega
  · intro k hk
    simp only [Value.ownBlock, Option.some.injEq] at hk
    omega

set_option maxHeartbeats 400000 in
theorem sumTells_some (a0 : Option Addr) (len0 cap0 : Nat) (z0 : List Int) (a1 : Int) (b0 b1 b2 b3 : Int) (w : World)
    (w0 : IsRow .u8 1 w a0 len0 cap0 z0) (w1 : (Lit.int .i64 a1).wf = true) (w2 : ∀ b ∈ [b0, b1, b2, b3], (Lit.int .u8 b).wf = true) (hl : 0 < len0) :
    Calls Try.prog 4 #[.slice a0 len0 cap0, .int .i64 a1, .agg #[.int .u8 b0, .int .u8 b1, .int .u8 b2, .int .u8 b3]] w fun e w' => e = .returned (.bool true) ∧ Below w.heap.size w w' := by
  have r0 := Lib.hid (w0.at (Nat.le_refl _))
  obtain ⟨l0, c0⟩ := w0.cap_le (Nat.le_refl _)
  clear w0
  obtain ⟨b, off, rfl, hc⟩ := r0.out.cells hl
  have hc2 := Lib.hid (fun o1 o2 => cells_take2 hc o1 o2 r0.out.len_eq)
  have HC := Lib.hid hc
  clear hc
  generalize hzz : z0.take len0 = zs at *
  clear hzz
  obtain ⟨i0, hi, hz0, hz1, hz2⟩ := info_parts info8
  go_enter Try.func4, Try.ntmps4
  go_wp2_with (first
    | (at_builtin; go_loud (refine wpList_append_some _ rfl _ _ 22 rfl (w.heap.size + 1) 5 i0 (.int .u8 0) 1 1 Try.underlying22 hi hz0 hz1 hz2 rfl (by decide) _ 0 [] rfl (made_empty w _) ⟨b, off, none⟩ len0 cap0 (zs.map (Value.int .u8)) rfl ?c1 ?c2 ?c3 ?c4 ?c5 ?c6 ?c7 ?_)))
  case c1 => rw [List.length_map, r0.out.len_eq, Nat.mul_one]
  case c2 =>
    exact hc2.out _ _
  case c3 => intro u hu; obtain ⟨z, _, rfl⟩ := List.mem_map.1 hu; rfl
  case c4 => unfold maxLen; omega
  case c5 => omega
  case c6 => simp
  case c7 => exact hl
  intro g c' w2 hown hgrow hg hg2
  have hb2 := below_kept hgrow
  have hbox := box_kept hgrow
  have HO := Lib.hid hown
  have HB := Lib.hid hb2
  have HX := Lib.hid hbox
  clear hown hgrow hb2 hbox
  obtain ⟨t, htl, ht⟩ := umod_ex a1 len0 hl
  clear hc2
  go_wp2
  go_loopw [8] (fun i wr => ∃ k : Nat, k ≤ 4 ∧ i = .int .i64 k ∧ wr.ownsRow (w.heap.size + 1) 5 1 (.slice (some ⟨g, 0, none⟩) len0 c') len0 ((tellTo zs [b0, b1, b2, b3] t k).map (Value.int .u8)) ∧ Below w.heap.size w wr ∧ (∀ j, j < 4 → wr.cell? ⟨w.heap.size, j, none⟩ = some (.int .u8 ([b0, b1, b2, b3].getD j 0)))) (fun i _ => 4 - (intOf i).toNat)
  case atStart => exact ⟨0, by omega, rfl, tell_start HO.out, HB.out, HX.out⟩
  case round =>
    obtain ⟨k, hk, rfl, hown, hnx, hbox⟩ := hrel
    by_cases hlt : k < 4 ∧ t + k < len0
    · obtain ⟨h4, htk⟩ := hlt
      have f1 := hown.cellAt (t + k) (by omega)
      have f2 := hown.frozenAt (t + k)
      rw [List.getElem?_map, tell_get r0.out.len_eq htk, Option.map_some] at f1
      have f3 := hbox k h4
      generalize hx1 : [b0, b1, b2, b3].getD k 0 = x1 at *
      generalize hx0 : zs.getD (t + k) 0 = x0 at *
      have GX := Lib.hid hbox
      have GO := Lib.hid hown
      have GN := Lib.hid hnx
      have G0 := Lib.hid hx0
      have G1 := Lib.hid hx1
      clear hbox hown hnx hx0 hx1 ht
      go_wp2
      go_region
      go_wp2
      go_roundw
      case rel => exact ⟨k + 1, by omega, by go_num, tell_step GO.out G0.out G1.out, (GN.out.setCell (by simp; omega) _).drew, tell_box GX.out hg⟩
      case measure => simp [intOf]; omega
    · have q1 := Lib.hid (RowAt.owned hown (tell_wf r0.out.wf) r0.out.len_le)
      have q0 := Lib.hid (r0.out.below hnx)
      have GN := Lib.hid hnx
      have hlaw := tells_law zs [b0, b1, b2, b3] t k hk r0.out.wf
      have hs0 := run_convert_bytes_arg (P := Try.prog) wr.drew 22 5 Try.underlying22 Try.underlying5 b off len0 cap0 zs r0.out.len_eq (fun i hi => hnx.cell_of (HC.out i hi)) 9 Try.underlying9
      have hs1 := run_convert_bytes_arg (P := Try.prog) wr.drew 22 5 Try.underlying22 Try.underlying5 g 0 len0 c' (tellTo zs [b0, b1, b2, b3] t k) (by rw [length_tellTo]; exact r0.out.len_eq) (fun i hi => by obtain ⟨_, _, e, hh⟩ := q1.out.cells hl; cases e; exact hh i hi) 9 Try.underlying9
      clear hbox hown hnx HO HB HX HC r0
      have fin : (k < 4 ∧ len0 ≤ t + k) ∨ ¬ k < 4 := by omega
      rcases fin with ⟨h4, htk⟩ | h4
      all_goals
        go_wp2
        refine wp_region_still_tail 12 (by kernel_rfl) (by kernel_rfl) ?_
        simp only [List.take_succ_cons, List.take_zero, List.drop_succ_cons, List.drop_zero]
        change wpStill _ _ wr.drew _ _ _
        repeat still_step
        still_call (crc_still _ _ _ _ _ q0.out)
        repeat still_step
        still_call (crc_still _ _ _ _ _ q1.out)
        repeat still_step
        try refine wpStill_nil ?_
        generalize hw2 : wr.drew = w2
        go_wp2_with (go_at_call 16; refine (awake4_any _).mono ?_; rintro e w' ⟨rfl, hb⟩)
        go_ret
        subst hw2
        exact ⟨rfl, GN.out.drew.trans (hb.mono GN.out.size)⟩

theorem RowAt.zero (k : IntKind) (a : Option Addr) (w : World) : RowAt k w a 0 [] := ⟨rfl, by omega, by simp, Or.inl rfl⟩
set_option maxHeartbeats 400000 in
theorem sumTells_none (a0 : Option Addr) (cap0 : Nat) (a1 : Int) (b0 b1 b2 b3 : Int) (w : World) :
    Calls Try.prog 4 #[.slice a0 0 cap0, .int .i64 a1, .agg #[.int .u8 b0, .int .u8 b1, .int .u8 b2, .int .u8 b3]] w fun e w' => e = .returned (.bool true) ∧ Below w.heap.size w w' := by
  have hk : ((((Crc.of []).toNat : Int)) == 0) = true := by decide
  go_enter Try.func4, Try.ntmps4
  go_wp2_with fail
  refine (crc_any _ _ _ [] _ (RowAt.zero _ _ _)).mono ?_
  rintro e w' ⟨rfl, rfl⟩
  go_wp2_with (go_at_call 16; refine (awake4_any _).mono ?_; rintro e w' ⟨rfl, hb⟩)
  go_ret
  exact ⟨rfl, ((Below.refl _ _).alloc (Nat.le_refl _) _).trans (hb.mono (by simp))⟩

theorem sumTells_any (a0 : Option Addr) (len0 cap0 : Nat) (z0 : List Int) (a1 : Int) (b0 b1 b2 b3 : Int) (w : World)
    (w0 : IsRow .u8 1 w a0 len0 cap0 z0) (w1 : (Lit.int .i64 a1).wf = true) (w2 : ∀ b ∈ [b0, b1, b2, b3], (Lit.int .u8 b).wf = true) :
    Calls Try.prog 4 #[.slice a0 len0 cap0, .int .i64 a1, .agg #[.int .u8 b0, .int .u8 b1, .int .u8 b2, .int .u8 b3]] w fun e w' => e = .returned (.bool true) ∧ Below w.heap.size w w' := by
  by_cases h : 0 < len0
  · exact sumTells_some a0 len0 cap0 z0 a1 b0 b1 b2 b3 w w0 w1 w2 h
  · obtain rfl : len0 = 0 := by omega
    exact sumTells_none a0 cap0 a1 b0 b1 b2 b3 w
end Go.Proofs.Ytfmoolnoalomeaa
