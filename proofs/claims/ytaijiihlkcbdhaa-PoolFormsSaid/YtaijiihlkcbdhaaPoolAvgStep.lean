/-
  What is done with one window: its sum is put behind the others.
-/
import Derived.Test.YtaijiihlkcbdhaaPoolMaxEach
namespace Go.Proofs.Ytaijiihlkcbdhaa
open Go.RowKit
set_option linter.unusedVariables false
namespace T
/-- The sum of a window. -/
def sum (D : List Int) : List Int → Int
  | [] => 0
  | a :: L => D.getD a.toNat 0 + sum D L
theorem sum_snoc (D : List Int) (a : Int) : ∀ L, sum D (L ++ [a]) = sum D L + D.getD a.toNat 0
  | [] => by simp [sum]
  | b :: L => by rw [List.cons_append]; show D.getD b.toNat 0 + sum D (L ++ [a]) = D.getD b.toNat 0 + sum D L + _; rw [sum_snoc D a L]; omega
theorem sum_le {D : List Int} (h : ∀ i : Nat, -128 ≤ D.getD i 0 ∧ D.getD i 0 ≤ 127) : ∀ L : List Int, -128 * (L.length : Int) ≤ sum D L ∧ sum D L ≤ 128 * (L.length : Int)
  | [] => by simp [sum]
  | b :: L => by
    have h1 := sum_le h L
    have h2 := h b.toNat
    show -128 * ((L.length + 1 : Nat) : Int) ≤ D.getD b.toNat 0 + sum D L ∧ D.getD b.toNat 0 + sum D L ≤ 128 * ((L.length + 1 : Nat) : Int)
    omega
end T
theorem wf8 {x : Int} (h : (Lit.int .i8 x).wf = true) : -128 ≤ x ∧ x ≤ 127 := by
  simp [Lit.wf, IntKind.min, IntKind.max, IntKind.signed, IntKind.bits] at h
  omega
theorem wf32 {x : Int} (h : -2147483648 ≤ x ∧ x ≤ 2147483647) : (Lit.int .i32 x).wf = true := by
  simp [Lit.wf, IntKind.min, IntKind.max, IntKind.signed, IntKind.bits]
  omega
theorem getD8 {z : List Int} (h : ∀ x ∈ z, (Lit.int .i8 x).wf = true) (i : Nat) : -128 ≤ z.getD i 0 ∧ z.getD i 0 ≤ 127 := by
  by_cases hi : i < z.length
  · exact wf8 (h _ (by simp [List.getD, List.getElem?_eq_getElem hi]))
  · rw [show z.getD i 0 = 0 by simp [List.getD, List.getElem?_eq_none (Nat.le_of_not_lt hi)]]
    omega
theorem info32 : (Try.prog.info? 21).map (fun i => (i.zero, i.size, i.bytes)) = some (some (.int .i32 0), 1, 4) := by kernel_rfl
def AccAt (B ba : Nat) (od oe : Value) (n : Nat) (xs : List Int) (w : World) : Prop := ∃ vd, w.heap[ba]? = some (.cells #[od, oe, vd] 33 (0, 0)) ∧ w.ownsRow B 21 1 vd n (xs.map (Value.int .i32)) ∧ B ≤ w.heap.size
set_option maxHeartbeats 4000000 in
theorem avgStep_any (i : Int) (a : Option Addr) (l c : Nat) (L : List Int) (bx ba : Nat) (od oe : Value) (pd : Option Addr) (md cd : Nat) (D : List Int) (B n : Nat) (xs : List Int) (w : World)
    (hL : RowAt .i64 w a l L) (hl : l ≤ 25) (hx : w.cell? ⟨bx, 2, none⟩ = some (.slice pd md cd)) (hD : RowAt .i8 w pd md D) (hin : ∀ z ∈ L, 0 ≤ z ∧ z < md) (hm : AccAt B ba od oe n xs w) (hab : ba < B) (hn : n ≤ 10000) :
    Calls Try.prog 29 #[.int .i64 i, .slice a l c, .pointer (some ⟨bx, 0, none⟩), .pointer (some ⟨ba, 0, none⟩)] w fun e w' => e = .returned (.tuple #[]) ∧ AccAt B ba od oe (n + 1) (xs ++ [T.sum D L]) w' ∧ Kept B (fun g => g = ba) w w' := by
  obtain ⟨xx, hxx⟩ : ∃ xx, T.sum D L = xx := ⟨_, rfl⟩
  rw [hxx]
  have HXX := Lib.hid hxx
  have H0 := Lib.hid hL
  have HD := Lib.hid hD
  have HIN := Lib.hid hin
  have HM := Lib.hid hm
  have H8 := Lib.hid (getD8 hD.wf)
  have HXC := Lib.hid hx
  clear hxx hL hD hin hm
  go_enter Try.func29, Try.ntmps29
  go_wp2_with fail
  go_loop [6, 11] (fun b i => ∃ j : Nat, j ≤ l ∧ i = .int .i64 j ∧ b = .int .i32 (T.sum D (L.take j))) (fun _ i => l - (intOf i).toNat)
  case atStart => exact ⟨0, Nat.zero_le _, rfl, rfl⟩
  case round =>
    obtain ⟨j, hj, rfl, rfl⟩ := hrel
    have hsb := T.sum_le H8.out (L.take j)
    have hlt25 : (L.take j).length ≤ 25 := by have := List.length_take_le j L; omega
    by_cases hlt : j < l
    · obtain ⟨b0, o0, rfl, e0⟩ := H0.out.cells (by omega)
      have f0 := e0 j hlt
      have hjl : j < L.length := by rw [H0.out.len_eq]; exact hlt
      obtain ⟨a1, a2⟩ := HIN.out (L.getD j 0) (by simp [List.getD, List.getElem?_eq_getElem hjl])
      have hsn : T.sum D (L.take (j + 1)) = T.sum D (L.take j) + D.getD (L.getD j 0).toNat 0 := by
        have e : L.getD j 0 = L[j] := by simp [List.getD, List.getElem?_eq_getElem hjl]
        rw [List.take_succ_eq_append_getElem hjl, T.sum_snoc, e]
      have h8 := H8.out (L.getD j 0).toNat
      obtain ⟨b1, o1, rfl, e1⟩ := HD.out.cells (by omega)
      have c1 := e1 (L.getD j 0).toNat (by omega)
      have HS := Lib.hid hsn
      clear e0 e1 hsn hjl
      generalize T.sum D (L.take j) = sj at *
      generalize L.getD j 0 = at' at *
      generalize D.getD at'.toNat 0 = xa at *
      obtain ⟨h81, h82⟩ := h8
      obtain ⟨hs1, hs2⟩ := hsb
      go_wp2_with fail
      go_round
      case rel => exact ⟨j + 1, by omega, by go_num, by rw [HS.out]⟩
      case measure => simp [intOf]; omega
    · have hje : j = l := by omega
      have htk : L.take j = L := by rw [hje, ← H0.out.len_eq]; exact List.take_length
      rw [htk, HXX.out] at hsb ⊢
      obtain ⟨vd, ho, hown, hB⟩ := HM.out
      have HO := Lib.hid ho
      have GO := Lib.hid hown
      obtain ⟨oc0, oc1, oc2, of0, of1, of2⟩ := newTensor ho
      obtain ⟨i0, hi, hz0, hz1, hz2⟩ := info_parts info32
      clear ho hown HM htk hje HXX hx
      go_wp2_with (at_builtin; refine wpList_append_where _ rfl _ _ 31 rfl B 21 i0 (.int .i32 0) 1 4 Try.underlying31 hi hz0 hz1 hz2 rfl (by decide) vd n (xs.map (Value.int .i32)) rfl (GO.out.alloc _) ⟨w.heap.size, 0, none⟩ 1 1 [.int .i32 xx] rfl rfl ?c1 ?c2 ?c3 ?c4 ?c5 ?c6 ?_)
      case c2 => rfl
      case c3 => unfold maxLen; omega
      case c4 => omega
      case c5 => omega
      intro g c' w4 hown2 hgrow hgv hg1 hg2
      have nv : ∀ k, k < B → vd.ownBlock = some k → False := fun k hk e => by have := (GO.out.lt k e).1; omega
      have O4 := Lib.hid (blk_grown hgrow (blk_alloc HO.out _) (nv _ hab))
      have K4 := Lib.hid (show Kept B (fun g => g = ba) w w4 from Kept.grown (wq := w) (W := w.alloc (Obj.cells #[.int .i32 xx] 21)) ⟨rfl, rfl, rfl, (below_alloc w _).size, fun g hg _ => (below_alloc w _).block g (Nat.lt_of_lt_of_le hg hB)⟩ hgrow (by rw [World.size_alloc]; omega) (fun k e => (GO.out.lt k e).1))
      have R4 := Lib.hid (show w4.ownsRow B 21 1 (.slice (some ⟨g, 0, none⟩) (n + 1) c') (n + 1) ((xs ++ [xx]).map (Value.int .i32)) from by rw [List.map_append]; exact hown2)
      obtain ⟨p0, p1, p2, q0, q1, q2⟩ := newTensor O4.out
      have hs4 : B ≤ w4.heap.size := by omega
      clear hown2 hgrow hgv oc0 oc1 oc2 of0 of1 of2 nv
      go_wp2
      go_end0
      refine ⟨rfl, ⟨_, three_setCell O4.out, ownsRow_setCell_other R4.out (fun e => ?_) _, by rw [World.size_setCell]; exact hs4⟩, ⟨K4.out.os, K4.out.tape, K4.out.output, by rw [World.size_setCell]; exact K4.out.size, fun k hk hn => ?_⟩⟩
      · have e : some g = some ba := e
        injection e with e
        omega
      · rw [Below.heap_setCell _ _ _ _ (fun e => hn e)]
        exact K4.out.block k hk hn
end Go.Proofs.Ytaijiihlkcbdhaa
