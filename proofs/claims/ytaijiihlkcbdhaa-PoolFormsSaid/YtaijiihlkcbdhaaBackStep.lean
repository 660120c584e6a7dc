/-
  What goes back to all of one window.
-/
import Derived.Test.YtaijiihlkcbdhaaBackPlain
import Derived.Test.YtaijiihlkcbdhaaPoolMaxYes
namespace Go.Proofs.Ytaijiihlkcbdhaa
open Go.RowKit
set_option linter.unusedVariables false
/-- Sums that are being filled: what has been put so far. -/
def SumAt (B ba bd : Nat) (od oe : Value) (n : Nat) (ps : List (Int × Int)) (w : World) : Prop :=
  w.heap[ba]? = some (.cells #[od, oe, .slice (some ⟨bd, 0, none⟩) n n] 33 (0, 0)) ∧ w.ownsRow B 21 1 (.slice (some ⟨bd, 0, none⟩) n n) n ((T.puts n ps).map (Value.int .i32)) ∧ ba ≠ bd
theorem SumAt.put {B ba bd n q : Nat} {od oe : Value} {ps : List (Int × Int)} {w : World} {v u : Int} (h : SumAt B ba bd od oe n ps w) (hu : (T.puts n ps).getD q 0 + v = u) : SumAt B ba bd od oe n (ps ++ [((q : Int), v)]) (w.setCell ⟨bd, q, none⟩ (.int .i32 u)).drew := by
  obtain ⟨h1, h2, h3⟩ := h
  refine ⟨(Below.heap_setCell _ _ _ _ (fun e => h3 e)).trans h1, ?_, h3⟩
  have := (h2.stored q (.int .i32 u)).1
  rw [← List.map_set, ← hu] at this
  rw [T.puts_snoc]
  subst hu
  exact this.drew
theorem Kept.set1 {B bd q : Nat} {w0 w : World} {v : Value} (h : Kept B (fun g => g = bd) w0 w) : Kept B (fun g => g = bd) w0 (w.setCell ⟨bd, q, none⟩ v).drew :=
  ⟨h.os, h.tape, h.output, by show w0.heap.size ≤ (w.setCell _ _).heap.size; rw [World.size_setCell]; exact h.size, fun g hg hn => (Below.heap_setCell _ _ _ _ (fun e => hn e)).trans (h.block g hg hn)⟩
theorem Kept.rowIn {B S} {w w' : World} (h : Kept B S w w') {k : IntKind} {a : Option Addr} {n : Nat} {zs : List Int} (hr : RowAt k w a n zs) (hl : ∀ x, a = some x → x.block < B ∧ ¬ S x.block) : RowAt k w' a n zs :=
  ⟨hr.1, hr.2.1, hr.2.2.1, hr.2.2.2.imp id fun ⟨b, off, e, hc⟩ => ⟨b, off, e, fun j hj => by
    have hh := h.block b (hl _ e).1 (hl _ e).2
    have := hc j hj
    unfold World.cell? at this ⊢
    simp only [hh]
    exact this⟩⟩
set_option maxRecDepth 100000 in
set_option maxHeartbeats 4000000 in
theorem backStep_any (i : Nat) (a : Option Addr) (l c : Nat) (L : List Int) (bx ba bd : Nat) (od oe : Value) (pd : Option Addr) (md cd : Nat) (D : List Int) (B n : Nat) (ps : List (Int × Int)) (w : World)
    (hL : RowAt .i64 w a l L) (hl : l ≤ 25) (hx : w.cell? ⟨bx, 2, none⟩ = some (.slice pd md cd)) (hD : RowAt .i8 w pd md D) (hi : i < md) (hin : ∀ z ∈ L, 0 ≤ z ∧ z < n) (hn : n ≤ 8192) (hm : SumAt B ba bd od oe n ps w)
    (hps : ∀ p ∈ ps, -128 ≤ p.2 ∧ p.2 ≤ 128) (hpl : ps.length ≤ 300000) (ha : ∀ x, a = some x → x.block ≠ bd) (hd : ∀ x, pd = some x → x.block ≠ bd) (hxd : bx ≠ bd) :
    Calls Try.prog 37 #[.int .i64 i, .slice a l c, .pointer (some ⟨ba, 0, none⟩), .pointer (some ⟨bx, 0, none⟩)] w fun e w' => e = .returned (.tuple #[]) ∧ SumAt B ba bd od oe n (ps ++ L.map (fun z => (z, D.getD i 0))) w' ∧ Kept w.heap.size (fun g => g = bd) w w' := by
  have hv := getD8 hD.wf i
  have hll := hL.len_eq
  have hmd := hD.len_le
  have HD0 := Lib.hid ((hD.cells (by omega)))
  obtain ⟨b1, o1, rfl, e1⟩ := HD0.out
  have c1 := e1 i hi
  have nb1 : b1 ≠ bd := hd _ rfl
  have H0 := Lib.hid hL
  have HIN := Lib.hid hin
  have HM := Lib.hid hm
  have HX := Lib.hid hx
  have HC1 := Lib.hid c1
  have HPS := Lib.hid hps
  have HA := Lib.hid ha
  generalize D.getD i 0 = v at *
  clear hL hD hin hm hx hps c1 e1 HD0 ha hd
  go_enter Try.func37, Try.ntmps37
  go_wp2_with fail
  go_loopw [10] (fun I wr => ∃ j : Nat, j ≤ l ∧ I = .int .i64 j ∧ SumAt B ba bd od oe n (ps ++ (L.take j).map (fun z => (z, v))) wr ∧ Kept w.heap.size (fun g => g = bd) w wr) (fun I _ => l - (intOf I).toNat)
  case atStart => exact ⟨0, Nat.zero_le _, rfl, by simpa using HM.out, rfl, rfl, rfl, Nat.le_refl _, fun _ _ _ => rfl⟩
  case round =>
    obtain ⟨j, hj, rfl, hsum, hkp⟩ := hrel
    have HSum := Lib.hid hsum
    have HKp := Lib.hid hkp
    obtain ⟨hblk, hown, hne⟩ := hsum
    by_cases hlt : j < l
    · obtain ⟨y0, y1, y2, _⟩ := newTensor hblk
      have hjl : j < L.length := by omega
      obtain ⟨b0, o0, ea, e0⟩ := H0.out.cells (by omega)
      have hb0 := HA.out _ ea
      subst ea
      have lb0 := World.block_lt_of_cell? w _ (e0 j hlt)
      have f0 := hkp.cell (p := ⟨b0, o0 + j, none⟩) lb0 hb0 (e0 j hlt)
      have f1 := hkp.cell (World.block_lt_of_cell? w _ HC1.out) nb1 HC1.out
      have x2 := hkp.cell (World.block_lt_of_cell? w _ HX.out) hxd HX.out
      obtain ⟨a1, a2⟩ := HIN.out (L.getD j 0) (by simp [List.getD, List.getElem?_eq_getElem hjl])
      have htk : (L.take (j + 1)).map (fun z => (z, v)) = (L.take j).map (fun z => (z, v)) ++ [(L.getD j 0, v)] := by
        have e : L.getD j 0 = L[j] := by simp [List.getD, List.getElem?_eq_getElem hjl]
        rw [List.take_succ_eq_append_getElem hjl, List.map_append, e]
        rfl
      have HTk := Lib.hid htk
      have hlen : ((ps ++ (L.take j).map (fun z => (z, v))).length : Int) ≤ 300025 := by
        rw [List.length_append, List.length_map]
        have := List.length_take_le j L
        omega
      have HBd := Lib.hid (T.puts_bound n (ps ++ (L.take j).map (fun z => (z, v))) (fun p hp => by
        rcases List.mem_append.1 hp with hp | hp
        · exact HPS.out p hp
        · obtain ⟨z, _, rfl⟩ := List.mem_map.1 hp
          show -128 ≤ v ∧ v ≤ 128
          omega))
      generalize hX : L.getD j 0 = f at *
      clear hX htk e0 hkp hblk
      obtain ⟨q, rfl⟩ : ∃ q : Nat, f = q := ⟨f.toNat, by omega⟩
      have hq : q < n := by omega
      generalize hPS2 : ps ++ (L.take j).map (fun z => (z, v)) = PS at *
      have HPS2 := Lib.hid hPS2
      clear hPS2
      have f2 := hown.cellAt q (by omega)
      have f3 := hown.frozenAt q
      rw [List.getElem?_map, List.getElem?_eq_getElem (by rw [T.length_puts]; omega), Option.map_some] at f2
      have hg : (T.puts n PS)[q]'(by rw [T.length_puts]; omega) = (T.puts n PS).getD q 0 := by
        have : q < (T.puts n PS).length := by rw [T.length_puts]; omega
        simp [List.getD, List.getElem?_eq_getElem this]
      rw [hg] at f2
      have hu := HBd.out q
      generalize hU : (T.puts n PS).getD q 0 = u at *
      have HU := Lib.hid hU
      clear hg hown hU
      have c5 : IntKind.i32.wrap (u + v) = u + v := IntWalk.i32_in _ (by omega)
      have c6 : IntKind.i32.wrap v = v := IntWalk.i32_in _ (by omega)
      have i1 : (0 : Int) ≤ (q : Int) := by omega
      have i2 : (q : Int) < (n : Int) := by omega
      have i3 : (0 : Int) ≤ (i : Int) := by omega
      have i4 : (i : Int) < (md : Int) := by omega
      go_wp2_with fail
      go_region
      go_wp2_with fail
      go_roundw
      case rel =>
        refine ⟨j + 1, by omega, by go_num, ?_, HKp.out.set1⟩
        rw [HTk.out, ← List.append_assoc, HPS2.out]
        exact HSum.out.put (by rw [HU.out])
      case measure => simp [intOf]; omega
    · obtain rfl : j = l := by omega
      have htk : L.take j = L := by rw [← hll]; exact List.take_length
      rw [htk] at HSum
      clear hblk hown htk hkp
      go_wp2_with fail
      go_end0
      exact ⟨rfl, HSum.out, HKp.out⟩
end Go.Proofs.Ytaijiihlkcbdhaa
