/-
  The walk of SumLines: of three rows of bytes as long the sums, changed by one another, are that of the rows changed so.
-/
import Derived.Test.YtfmoolnoalomeaaCrcWalk
import Derived.BigRegion
import Derived.BigQuiet
import Derived.StillTailTactics
namespace Go.Proofs.Ytfmoolnoalomeaa
open Go.RowKit
set_option linter.unusedVariables false

/-- The bytes of three rows, changed by one another. -/
def xor3 (xs ys zs : List Int) (n : Nat) : List Int := (List.range n).map fun i => bits .xor .u8 (bits .xor .u8 (xs.getD i 0) (ys.getD i 0)) (zs.getD i 0)
/-- .. of which the first k are made. -/
def xor3To (xs ys zs : List Int) (n k : Nat) : List Int := (List.range n).map fun i => if i < k then bits .xor .u8 (bits .xor .u8 (xs.getD i 0) (ys.getD i 0)) (zs.getD i 0) else 0
theorem length_xor3To (xs ys zs : List Int) (n k : Nat) : (xor3To xs ys zs n k).length = n := by simp [xor3To]
theorem xor3To_all (xs ys zs : List Int) (n : Nat) : xor3To xs ys zs n n = xor3 xs ys zs n := by
  unfold xor3To xor3
  apply List.map_congr_left
  intro i hi
  rw [if_pos (List.mem_range.1 hi)]
theorem made_xor3 (xs ys zs : List Int) (n : Nat) : (madeCells #[Value.int IntKind.u8 0] n).toList = (xor3To xs ys zs n 0).map (Value.int .u8) := by
  rw [toList_madeCells_one]
  apply List.ext_getElem
  · simp [xor3To]
  · intro i h1 h2
    simp [xor3To]
theorem xor3To_set (xs ys zs : List Int) (n k : Nat) (hk : k < n) : (xor3To xs ys zs n k).set k (bits .xor .u8 (bits .xor .u8 (xs.getD k 0) (ys.getD k 0)) (zs.getD k 0)) = xor3To xs ys zs n (k + 1) := by
  apply List.ext_getElem
  · simp [xor3To]
  · intro i h1 h2
    rw [List.getElem_set]
    by_cases h : k = i
    · subst h; simp [xor3To]
    · rw [if_neg h]
      simp only [xor3To, List.getElem_map, List.getElem_range]
      by_cases h' : i < k
      · rw [if_pos h', if_pos (by omega)]
      · rw [if_neg h', if_neg (by omega)]

theorem info8 : (Try.prog.info? 5).map (fun i => (i.zero, i.size, i.bytes)) = some (some (.int .u8 0), 1, 1) := by kernel_rfl
theorem min3_ex (a b c : Nat) : ∃ n : Nat, (n ≤ a ∧ n ≤ b ∧ n ≤ c) ∧ (if (c : Int) < (if b < a then (b : Int) else (a : Int)) then (c : Int) else (if b < a then (b : Int) else (a : Int))) = (n : Int) := by
  by_cases h1 : b < a
  · by_cases h2 : (c : Int) < (b : Int)
    · exact ⟨c, by omega, by simp [h1, h2]⟩
    · exact ⟨b, by omega, by simp [h1, h2]⟩
  · by_cases h2 : (c : Int) < (a : Int)
    · exact ⟨c, by omega, by simp [h1, h2]⟩
    · exact ⟨a, by omega, by simp [h1, h2]⟩

theorem crc_still (a : Option Addr) (len cap : Nat) (zs : List Int) (w : World) (h : RowAt .u8 w a len zs) :
    Calls Try.prog 14 #[.slice a len cap] w fun e w' => e = .returned (.int .u32 (Crc.of zs).toNat) ∧ w' = w := (crc_any a len cap zs w h).mono fun _ _ ⟨he, hw⟩ => ⟨he, hw.symm⟩
theorem xor_u8_wf (x y : Int) : (Lit.int .u8 (bits .xor .u8 x y)).wf = true := by
  unfold bits; exact wf_wrap _ _
theorem xor3_wf (xs ys zs : List Int) (n : Nat) : ∀ z ∈ xor3 xs ys zs n, (Lit.int .u8 z).wf = true := by
  intro z hz
  obtain ⟨i, _, rfl⟩ := List.mem_map.1 hz
  exact xor_u8_wf _ _
theorem byte_xor {a b : Int} (ha : (Lit.int .u8 a).wf = true) (hb : (Lit.int .u8 b).wf = true) : BitVec.ofInt 32 (bits .xor .u8 a b) = BitVec.ofInt 32 a ^^^ BitVec.ofInt 32 b := by
  obtain ⟨a0, a1⟩ := bounds_u8 ha
  obtain ⟨b0, b1⟩ := bounds_u8 hb
  obtain ⟨x, rfl⟩ := Int.eq_ofNat_of_zero_le a0
  obtain ⟨y, rfl⟩ := Int.eq_ofNat_of_zero_le b0
  have hx : x ^^^ y < 2 ^ 8 := Nat.xor_lt_two_pow (by omega) (by omega)
  have e : bits .xor .u8 (x : Int) (y : Int) = ((x ^^^ y : Nat) : Int) := by
    show IntKind.u8.wrap ((BitVec.ofInt 8 (x : Int) ^^^ BitVec.ofInt 8 (y : Int)).toNat : Int) = _
    rw [BitVec.toNat_xor, BitVec.ofInt_natCast, BitVec.ofInt_natCast, BitVec.toNat_ofNat, BitVec.toNat_ofNat, Nat.mod_eq_of_lt (by omega), Nat.mod_eq_of_lt (by omega), IntKind.wrap_u8]
    omega
  rw [e, BitVec.ofInt_natCast, BitVec.ofInt_natCast, BitVec.ofInt_natCast]
  apply BitVec.eq_of_toNat_eq
  rw [BitVec.toNat_xor, BitVec.toNat_ofNat, BitVec.toNat_ofNat, BitVec.toNat_ofNat, Nat.mod_eq_of_lt (by omega), Nat.mod_eq_of_lt (by omega), Nat.mod_eq_of_lt (by omega)]
theorem getD_wf {k : IntKind} {zs : List Int} (h : ∀ z ∈ zs, (Lit.int k z).wf = true) {i : Nat} (hi : i < zs.length) : (Lit.int k (zs.getD i 0)).wf = true := by
  apply h; simp [List.getD, List.getElem?_eq_getElem hi]
theorem xor3_zip (xs ys zs : List Int) (n : Nat) (hx : xs.length = n) (hy : ys.length = n) (hz : zs.length = n) (wx : ∀ z ∈ xs, (Lit.int .u8 z).wf = true) (wy : ∀ z ∈ ys, (Lit.int .u8 z).wf = true) (wz : ∀ z ∈ zs, (Lit.int .u8 z).wf = true) :
    (xor3 xs ys zs n).map (BitVec.ofInt 32) = List.zipWith (· ^^^ ·) (List.zipWith (· ^^^ ·) (xs.map (BitVec.ofInt 32)) (ys.map (BitVec.ofInt 32))) (zs.map (BitVec.ofInt 32)) := by
  apply List.ext_getElem
  · simp [xor3, hx, hy, hz]
  · intro i h1 h2
    have hi : i < n := by simpa [xor3] using h1
    simp only [xor3, List.getElem_map, List.getElem_range, List.getElem_zipWith]
    rw [byte_xor (xor_u8_wf _ _) (getD_wf wz (by omega)), byte_xor (getD_wf wx (by omega)) (getD_wf wy (by omega))]
    simp [List.getD, List.getElem?_eq_getElem (show i < xs.length by omega), List.getElem?_eq_getElem (show i < ys.length by omega), List.getElem?_eq_getElem (show i < zs.length by omega)]
theorem xor3_take (xs ys zs : List Int) (n : Nat) : xor3 xs ys zs n = xor3 (xs.take n) (ys.take n) (zs.take n) n := by
  apply List.map_congr_left
  intro i hi
  have hi' := List.mem_range.1 hi
  simp [List.getD, hi']
theorem lines_of (xs ys zs : List Int) (n : Nat) (hx : xs.length = n) (hy : ys.length = n) (hz : zs.length = n) (wx : ∀ z ∈ xs, (Lit.int .u8 z).wf = true) (wy : ∀ z ∈ ys, (Lit.int .u8 z).wf = true) (wz : ∀ z ∈ zs, (Lit.int .u8 z).wf = true) :
    Crc.of (xor3 xs ys zs n) = Crc.of xs ^^^ Crc.of ys ^^^ Crc.of zs := by
  unfold Crc.of
  rw [xor3_zip xs ys zs n hx hy hz wx wy wz]
  have e : Crc.start = (Crc.start ^^^ Crc.start) ^^^ Crc.start := by decide
  have r1 := Crc.run_xor (List.zipWith (· ^^^ ·) (xs.map (BitVec.ofInt 32)) (ys.map (BitVec.ofInt 32))) (zs.map (BitVec.ofInt 32)) (Crc.start ^^^ Crc.start) Crc.start (by simp [hx, hy, hz])
  rw [← e, Crc.run_xor _ _ _ _ (by simp [hx, hy])] at r1
  rw [r1]
  clear r1
  generalize Crc.run Crc.start (xs.map (BitVec.ofInt 32)) = a
  generalize Crc.run Crc.start (ys.map (BitVec.ofInt 32)) = b
  generalize Crc.run Crc.start (zs.map (BitVec.ofInt 32)) = c
  ext i hi
  simp only [BitVec.getElem_xor, BitVec.getElem_not]
  cases a[i] <;> cases b[i] <;> cases c[i] <;> rfl
theorem lines_law (y0 y1 y2 : List Int) (k : Nat) (hx : (y0.take k).length = k) (hy : (y1.take k).length = k) (hz : (y2.take k).length = k) (wx : ∀ z ∈ y0.take k, (Lit.int .u8 z).wf = true) (wy : ∀ z ∈ y1.take k, (Lit.int .u8 z).wf = true) (wz : ∀ z ∈ y2.take k, (Lit.int .u8 z).wf = true) :
    (((Crc.of (xor3 y0 y1 y2 k)).toNat : Int) == bits .xor .u32 (bits .xor .u32 ((Crc.of (y0.take k)).toNat : Int) ((Crc.of (y1.take k)).toNat : Int)) ((Crc.of (y2.take k)).toNat : Int)) = true := by
  rw [Crc.bxor, Crc.bxor, xor3_take, lines_of _ _ _ k hx hy hz wx wy wz]
  exact beq_self_eq_true _
theorem xor3_step {w : World} {B n k : Nat} {y0 y1 y2 : List Int} {x0 x1 x2 : Int} (h : w.ownsRow B 5 1 (.slice (some ⟨B, 0, none⟩) n n) n ((xor3To y0 y1 y2 n k).map (Value.int .u8))) (hk : k < n)
    (h0 : y0.getD k 0 = x0) (h1 : y1.getD k 0 = x1) (h2 : y2.getD k 0 = x2) :
    (w.setCell ⟨B, k, none⟩ (.int .u8 (bits .xor .u8 (bits .xor .u8 x0 x1) x2))).drew.ownsRow B 5 1 (.slice (some ⟨B, 0, none⟩) n n) n ((xor3To y0 y1 y2 n (k + 1)).map (Value.int .u8)) := by
  subst h0 h1 h2
  have := (h.stored k (.int .u8 (bits .xor .u8 (bits .xor .u8 (y0.getD k 0) (y1.getD k 0)) (y2.getD k 0)))).1
  rw [← List.map_set, xor3To_set _ _ _ _ _ hk] at this
  exact this.drew

set_option maxHeartbeats 400000 in
theorem sumLines_any (a0 : Option Addr) (len0 cap0 : Nat) (z0 : List Int) (a1 : Option Addr) (len1 cap1 : Nat) (z1 : List Int) (a2 : Option Addr) (len2 cap2 : Nat) (z2 : List Int) (w : World)
    (w0 : IsRow .u8 1 w a0 len0 cap0 z0) (w1 : IsRow .u8 1 w a1 len1 cap1 z1) (w2 : IsRow .u8 1 w a2 len2 cap2 z2) :
    Calls Try.prog 5 #[.slice a0 len0 cap0, .slice a1 len1 cap1, .slice a2 len2 cap2] w fun e w' => e = .returned (.bool true) ∧ Below w.heap.size w w' := by
  have r0 := Lib.hid (w0.at (Nat.le_refl _))
  have r1 := Lib.hid (w1.at (Nat.le_refl _))
  have r2 := Lib.hid (w2.at (Nat.le_refl _))
  obtain ⟨l0, c0⟩ := w0.cap_le (Nat.le_refl _)
  obtain ⟨l1, c1⟩ := w1.cap_le (Nat.le_refl _)
  obtain ⟨l2, c2⟩ := w2.cap_le (Nat.le_refl _)
  clear w0 w1 w2
  obtain ⟨i0, hi, hz0, hz1, hz2⟩ := info_parts info8
  obtain ⟨n, hn, hmin⟩ := min3_ex len0 len1 len2
  obtain ⟨n0, n1, n2⟩ := hn
  go_enter Try.func5, Try.ntmps5
  go_wp2_with (first
    | (at_make; refine wpList_make_full _ rfl _ _ 22 rfl w.heap.size 5 i0 (.int .u8 0) 1 Try.underlying22 hi hz0 hz1 .i64 .i64 _ _ n rfl rfl rfl rfl ?c1 ?c2 ?c3 ?_))
  case c1 => rw [hz2]; omega
  case c2 => unfold maxLen; omega
  case c3 => exact Nat.le_refl _
  intro w1 hown hgrow
  have hb1 : Below w.heap.size w w1 := (Below.refl _ _).grown hgrow (Nat.le_refl _) (fun _ h => by cases h)
  have hs1 : w.heap.size < w1.heap.size := (hown.lt _ rfl).2
  clear hgrow hi hz0 hz1 hz2 hmin
  have hown' : w1.ownsRow w.heap.size 5 1 (.slice (some ⟨w.heap.size, 0, none⟩) n n) n ((xor3To (List.take len0 z0) (List.take len1 z1) (List.take len2 z2) n 0).map (Value.int .u8)) := by
    exact made_xor3 _ _ _ n ▸ hown
  clear hown
  generalize hzz0 : List.take len0 z0 = y0 at *
  generalize hzz1 : List.take len1 z1 = y1 at *
  generalize hzz2 : List.take len2 z2 = y2 at *
  clear hzz0 hzz1 hzz2
  have HB := Lib.hid hb1
  have HO := Lib.hid hown'
  clear hb1 hown'
  go_wp2
  obtain ⟨B, hB⟩ : ∃ B, B = w.heap.size := ⟨_, rfl⟩
  go_loopw [20] (fun i wr => ∃ k : Nat, k ≤ n ∧ i = .int .i64 k ∧ wr.ownsRow w.heap.size 5 1 (.slice (some ⟨w.heap.size, 0, none⟩) n n) n ((xor3To y0 y1 y2 n k).map (Value.int .u8)) ∧ Below w.heap.size w wr) (fun i _ => n - (intOf i).toNat)
  case atStart => exact ⟨0, Nat.zero_le _, rfl, HO.out, HB.out⟩
  case round =>
    obtain ⟨k, hk, rfl, hown, hnx⟩ := hrel
    by_cases hlt : k < n
    · obtain ⟨b0, o0, rfl, e0⟩ := r0.out.cells (by omega)
      obtain ⟨b1, o1, rfl, e1⟩ := r1.out.cells (by omega)
      obtain ⟨b2, o2, rfl, e2⟩ := r2.out.cells (by omega)
      have f0 := hnx.cell_of (e0 k (by omega))
      have f1 := hnx.cell_of (e1 k (by omega))
      have f2 := hnx.cell_of (e2 k (by omega))
      have f3 := hown.cellAt k (by omega)
      have f4 := hown.frozenAt k
      rw [List.getElem?_map, List.getElem?_eq_getElem (by rw [length_xor3To]; exact hlt), Option.map_some] at f3
      clear e0 e1 e2
      generalize hx0 : y0.getD k 0 = x0 at *
      generalize hx1 : y1.getD k 0 = x1 at *
      generalize hx2 : y2.getD k 0 = x2 at *
      generalize (xor3To y0 y1 y2 n k)[k]'(by rw [length_xor3To]; exact hlt) = x3 at f3
      have G0 := Lib.hid hx0
      have G1 := Lib.hid hx1
      have G2 := Lib.hid hx2
      have GO := Lib.hid hown
      have GN := Lib.hid hnx
      clear hx0 hx1 hx2 hown hnx hB
      go_wp2
      go_region
      go_wp2
      go_roundw
      case rel => exact ⟨k + 1, by omega, by go_num, xor3_step GO.out hlt G0.out G1.out G2.out, (GN.out.setCell (Nat.le_refl _) _).drew⟩
      case measure => simp [intOf]; omega
    · obtain rfl : k = n := by omega
      rw [xor3To_all] at hown
      have q3 := Lib.hid (RowAt.owned hown (xor3_wf y0 y1 y2 k) (by omega))
      have q0 := Lib.hid ((r0.out.below hnx).take k n0)
      have q1 := Lib.hid ((r1.out.below hnx).take k n1)
      have q2 := Lib.hid ((r2.out.below hnx).take k n2)
      have GN := Lib.hid hnx
      clear hnx hown r0 r1 r2 HB HO hB
      have k0 : k ≤ cap0 := by omega
      have k1 : k ≤ cap1 := by omega
      have k2 : k ≤ cap2 := by omega
      have hlaw := lines_law y0 y1 y2 k q0.out.len_eq q1.out.len_eq q2.out.len_eq q0.out.wf q1.out.wf q2.out.wf
      go_wp2
      refine wp_region_still_tail 18 (by kernel_rfl) (by kernel_rfl) ?_
      simp only [List.take_succ_cons, List.take_zero, List.drop_succ_cons, List.drop_zero]
      change wpStill _ _ wr.drew _ _ _
      repeat still_step
      still_call (crc_still _ _ _ _ _ q3.out)
      repeat still_step
      still_call (crc_still _ _ _ _ _ q0.out)
      repeat still_step
      still_call (crc_still _ _ _ _ _ q1.out)
      repeat still_step
      still_call (crc_still _ _ _ _ _ q2.out)
      repeat still_step
      try refine wpStill_nil ?_
      generalize hw2 : wr.drew = w2
      go_wp2_with (go_at_call 16; refine (awake4_any _).mono ?_; rintro e w' ⟨rfl, hb⟩)
      go_ret
      subst hw2
      exact ⟨rfl, GN.out.drew.trans (hb.mono GN.out.size)⟩
end Go.Proofs.Ytfmoolnoalomeaa
