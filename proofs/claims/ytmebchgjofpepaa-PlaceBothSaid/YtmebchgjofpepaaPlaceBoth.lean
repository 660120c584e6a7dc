/-
  The walk of the law PlaceBoth.
-/
import Derived.Test.YtmebchgjofpepaaPlaceAwake
import Derived.Test.YtmebchgjofpepaaLookers
import Derived.Deep.Cut
import Derived.RegionTactic
import Derived.ChangeAlike
import Derived.BigRegion
import Derived.IntWalk
namespace Go.Proofs.Ytmebchgjofpepaa
open Go.RowKit Fl
set_option linter.unusedVariables false
theorem laidOut4 : laidOutB Try.prog = true := by kernel_rfl
theorem key4row : 48 < Try.prog.types.size := of_decide_eq_true (by kernel_rfl)
theorem key4law : WideMaps.KeyLaw Try.prog 48 := deep_law_laid laidOut4 (m := 2) (by omega) key4row (by kernel_rfl) (by kernel_rfl)
theorem key4type : Try.prog.keyType 48 = true := by kernel_rfl
theorem key4cells : Try.prog.cellsOf 48 = 4 := by kernel_rfl
theorem int4cells : Try.prog.cellsOf 3 = 1 := by kernel_rfl
theorem types4Size : ∃ m, Try.prog.types.size = m + 1 := ⟨Try.prog.types.size - 1, by have := key4row; omega⟩
theorem key4of (xs : List Int) (h : Ct.Fine 4 xs) : keyOf Try.prog 48 (Ct.keyV xs) = some (Ct.keyL xs) := by
  obtain ⟨hl, hw⟩ := h
  match xs, hl with
  | [a, b, c, d], _ =>
    have wa := hw a (by simp)
    have wb := hw b (by simp)
    have wc := hw c (by simp)
    have wd := hw d (by simp)
    obtain ⟨m, hm⟩ := types4Size
    unfold keyOf Ct.keyV Ct.keyL
    rw [Try.underlying48, key4type, hm]
    simp [Value.formed, Try.underlying48, key4cells, Program.keyLits, Value.cells, int4cells, Try.underlying3, wa, wb, wc, wd, List.range, List.range.loop]
theorem kind4 : Ct.Kind Try.prog 47 48 3 4 :=
  ⟨Try.underlying47, Try.underlying3, key4law, key4of, fun w => by kernel_rfl⟩
theorem Ct.At.off {P : Program} {k e : TypeId} {n : Nat} {w : World} {b : Nat} {L : List (List Int)} (h : Ct.At P k e n w b L) {g o : Nat} {u : Value} (hc : w.cell? ⟨g, o, none⟩ = some u) : some b ≠ some g := by
  intro e
  injection e with e
  subst e
  obtain ⟨D, ⟨es, clock, hb, _⟩, _⟩ := h
  unfold World.cell? at hc
  simp [hb] at hc
/-- 'len(m)' at the operation. -/
theorem Ct.wpList_len {P : Program} {t k e : TypeId} {n : Nat} (K : Ct.Kind P t k e n) (w : World) {ops : Array Oper} {rest : List Oper} {o : Oper} {a : Act} {Q : Exit → Act → World → Prop} (hg : o.guard = none) (m : Operand)
    (hop : o.op = Op.call { callee := Callee.builtin Builtin.len, args := #[m], argTypes := #[t] }) (b : Nat) (L : List (List Int)) (hm : a.eval m = .map (some b)) (h : Ct.At P k e n w b L) (hn : L.Nodup)
    (hK : wpList P ops Q rest (a.put o.dst (.int .i64 (L.length : Nat))) w) : wpList P ops Q (o :: rest) a w := by
  obtain ⟨D, h1, _, _, h4⟩ := h
  refine wpList_len_own w hg m t hop k e K.ht _ b _ D hm h1 ?_
  rw [h4 hn]
  exact hK
namespace Lk
def wrow (f : Int → Int → List (Int × Int × Int)) (n : Int) (y q : Nat) : List (List Int) := (List.range q).flatMap (fun (x : Nat) => (f y x).map (wkey ((y : Int) * n + x)))
def lrow (f : Int → Int → List (Int × Int × Int)) (n : Int) (y q : Nat) : List (List Int) := (List.range q).flatMap (fun (x : Nat) => (f y x).map (lkey ((y : Int) * n + x)))
theorem wrow_succ (f : Int → Int → List (Int × Int × Int)) (n : Int) (y q : Nat) : wrow f n y (q + 1) = wrow f n y q ++ (f y q).map (wkey ((y : Int) * n + q)) := by
  simp [wrow, List.range_succ]
theorem lrow_succ (f : Int → Int → List (Int × Int × Int)) (n : Int) (y q : Nat) : lrow f n y (q + 1) = lrow f n y q ++ (f y q).map (lkey ((y : Int) * n + q)) := by
  simp [lrow, List.range_succ]
theorem wins_succ (f : Int → Int → List (Int × Int × Int)) (n : Int) (p q : Nat) : wins f n (p + 1) q = wins f n p q ++ wrow f n p q := by
  simp [wins, wrow, List.range_succ]
theorem looks_succ (f : Int → Int → List (Int × Int × Int)) (n : Int) (p q : Nat) : looks f n (p + 1) q = looks f n p q ++ lrow f n p q := by
  simp [looks, lrow, List.range_succ]
theorem wins_zero (f : Int → Int → List (Int × Int × Int)) (n : Int) (q : Nat) : wins f n 0 q = [] := rfl
theorem looks_zero (f : Int → Int → List (Int × Int × Int)) (n : Int) (q : Nat) : looks f n 0 q = [] := rfl
theorem wrow_zero (f : Int → Int → List (Int × Int × Int)) (n : Int) (y : Nat) : wrow f n y 0 = [] := rfl
theorem lrow_zero (f : Int → Int → List (Int × Int × Int)) (n : Int) (y : Nat) : lrow f n y 0 = [] := rfl
theorem length_wrow (f : Int → Int → List (Int × Int × Int)) (n : Int) (y : Nat) (h : ∀ a b, (f a b).length ≤ 25) : ∀ q, (wrow f n y q).length ≤ q * 25
  | 0 => by simp [wrow]
  | q + 1 => by
    have := length_wrow f n y h q
    have := h y q
    rw [wrow_succ, List.length_append, List.length_map]
    omega
theorem length_wins (f : Int → Int → List (Int × Int × Int)) (n : Int) (h : ∀ a b, (f a b).length ≤ 25) (q : Nat) (hq : q ≤ 20) : ∀ p, (wins f n p q).length ≤ p * 500
  | 0 => by simp [wins]
  | p + 1 => by
    have := length_wins f n h q hq p
    have := length_wrow f n p h q
    rw [wins_succ, List.length_append]
    omega
theorem take_map (g : Int × Int × Int → List Int) (L : List (Int × Int × Int)) (j : Nat) (h : j < L.length) : (L.take (j + 1)).map g = (L.take j).map g ++ [g (L.getD j (0, 0, 0))] ∧ L.getD j (0, 0, 0) ∈ L := by
  have e : L.getD j (0, 0, 0) = L[j] := by simp [List.getD, h]
  rw [e, List.take_succ_eq_append_getElem h, List.map_append]
  exact ⟨rfl, List.getElem_mem h⟩
def part (f : Int → Int → List (Int × Int × Int)) (n : Int) (q y x : Nat) : List (List Int) := wins f n y q ++ wrow f n y x
def partJ (f : Int → Int → List (Int × Int × Int)) (n : Int) (q y x j : Nat) : List (List Int) := part f n q y x ++ ((f y x).take j).map (wkey ((y : Int) * n + x))
theorem part_zero (f : Int → Int → List (Int × Int × Int)) (n : Int) (q y : Nat) : part f n q y 0 = wins f n y q := by
  unfold part; rw [wrow_zero, List.append_nil]
theorem part_full (f : Int → Int → List (Int × Int × Int)) (n : Int) (q y : Nat) : part f n q y q = wins f n (y + 1) q := by
  unfold part; rw [wins_succ]
theorem partJ_zero (f : Int → Int → List (Int × Int × Int)) (n : Int) (q y x : Nat) : partJ f n q y x 0 = part f n q y x := by
  unfold partJ; rw [List.take_zero, List.map_nil, List.append_nil]
theorem partJ_full (f : Int → Int → List (Int × Int × Int)) (n : Int) (q y x j : Nat) (h : (f y x).length = j) : partJ f n q y x j = part f n q y (x + 1) := by
  unfold partJ part; rw [← h, List.take_length, List.append_assoc, ← wrow_succ]
theorem partJ_succ (f : Int → Int → List (Int × Int × Int)) (n : Int) (q y x j : Nat) (h : j < (f y x).length) : partJ f n q y x (j + 1) = partJ f n q y x j ++ [wkey ((y : Int) * n + x) ((f y x).getD j (0, 0, 0))] ∧ (f y x).getD j (0, 0, 0) ∈ f y x := by
  obtain ⟨h1, h2⟩ := take_map (wkey ((y : Int) * n + x)) (f y x) j h
  unfold partJ
  rw [h1, List.append_assoc]
  exact ⟨rfl, h2⟩
theorem partJ_le (f : Int → Int → List (Int × Int × Int)) (n : Int) (q y x j : Nat) (h : ∀ a b, (f a b).length ≤ 25) (hq : q ≤ 20) (hy : y ≤ 20) (hx : x ≤ 20) : (partJ f n q y x j).length ≤ 20000 := by
  unfold partJ part
  rw [List.length_append, List.length_append, List.length_map]
  have l1 := length_wins f n h q hq y
  have l2 := length_wrow f n y h x
  have l3 : ((f y x).take j).length ≤ (f y x).length := by rw [List.length_take]; omega
  have l4 := h y x
  omega
theorem wins_le (f : Int → Int → List (Int × Int × Int)) (n : Int) (p q : Nat) (h : ∀ a b, (f a b).length ≤ 25) (hq : q ≤ 20) (hp : p ≤ 20) : (wins f n p q).length ≤ 20000 := by
  have l1 := length_wins f n h q hq p
  omega
def lpart (f : Int → Int → List (Int × Int × Int)) (n : Int) (q y x : Nat) : List (List Int) := looks f n y q ++ lrow f n y x
def lpartJ (f : Int → Int → List (Int × Int × Int)) (n : Int) (q y x j : Nat) : List (List Int) := lpart f n q y x ++ ((f y x).take j).map (lkey ((y : Int) * n + x))
theorem lpart_zero (f : Int → Int → List (Int × Int × Int)) (n : Int) (q y : Nat) : lpart f n q y 0 = looks f n y q := by
  unfold lpart; rw [lrow_zero, List.append_nil]
theorem lpart_full (f : Int → Int → List (Int × Int × Int)) (n : Int) (q y : Nat) : lpart f n q y q = looks f n (y + 1) q := by
  unfold lpart; rw [looks_succ]
theorem lpartJ_zero (f : Int → Int → List (Int × Int × Int)) (n : Int) (q y x : Nat) : lpartJ f n q y x 0 = lpart f n q y x := by
  unfold lpartJ; rw [List.take_zero, List.map_nil, List.append_nil]
theorem lpartJ_full (f : Int → Int → List (Int × Int × Int)) (n : Int) (q y x j : Nat) (h : (f y x).length = j) : lpartJ f n q y x j = lpart f n q y (x + 1) := by
  unfold lpartJ lpart; rw [← h, List.take_length, List.append_assoc, ← lrow_succ]
theorem lpartJ_succ (f : Int → Int → List (Int × Int × Int)) (n : Int) (q y x j : Nat) (h : j < (f y x).length) : (lpartJ f n q y x (j + 1)).length = (lpartJ f n q y x j).length + 1 ∧ (f y x).getD j (0, 0, 0) ∈ f y x := by
  obtain ⟨h1, h2⟩ := take_map (lkey ((y : Int) * n + x)) (f y x) j h
  unfold lpartJ
  rw [h1, List.length_append, List.length_append, List.length_append]
  exact ⟨rfl, h2⟩
/-- What is gone through so far is no more than all. -/
theorem looks_mono (f : Int → Int → List (Int × Int × Int)) (n : Int) (q y p : Nat) (h : y ≤ p) : (looks f n y q).length ≤ (looks f n p q).length := by
  induction p with
  | zero => obtain rfl : y = 0 := by omega
            exact Nat.le_refl _
  | succ p ih =>
    by_cases e : y = p + 1
    · rw [e]; exact Nat.le_refl _
    · have := ih (by omega)
      rw [looks_succ, List.length_append]
      omega
theorem lrow_mono (f : Int → Int → List (Int × Int × Int)) (n : Int) (y x q : Nat) (h : x ≤ q) : (lrow f n y x).length ≤ (lrow f n y q).length := by
  induction q with
  | zero => obtain rfl : x = 0 := by omega
            exact Nat.le_refl _
  | succ p ih =>
    by_cases e : x = p + 1
    · rw [e]; exact Nat.le_refl _
    · have := ih (by omega)
      rw [lrow_succ, List.length_append]
      omega
theorem lpartJ_le (f : Int → Int → List (Int × Int × Int)) (n : Int) (p q y x j : Nat) (hx : x < q) (hy : y < p) (hj : j ≤ (f y x).length) : (lpartJ f n q y x j).length ≤ (looks f n p q).length := by
  have h1 := looks_mono f n q (y + 1) p (by omega)
  have h2 := lrow_mono f n y (x + 1) q (by omega)
  rw [looks_succ, List.length_append] at h1
  rw [lrow_succ, List.length_append, List.length_map] at h2
  unfold lpartJ lpart
  rw [List.length_append, List.length_append, List.length_map, List.length_take]
  omega
theorem get_le (f : Int → Int → List (Int × Int × Int)) (n : Int) (p q y x : Nat) (hx : x < q) (hy : y < p) : (f y x).length ≤ (looks f n p q).length := by
  have := lpartJ_le f n p q y x (f y x).length hx hy (Nat.le_refl _)
  unfold lpartJ at this
  rw [List.length_append, List.length_map, List.take_length] at this
  omega
end Lk
def lookG (rows cols k s p : Int) (r c : Int) : List (Int × Int × Int) := lookW rows cols r c k s p
theorem both_law (R C m n : Nat) (K S p : Int) (hK : K ≤ 5) (R2 : (R : Int) ≤ 8) (C1 : 1 ≤ (C : Int)) (C2 : (C : Int) ≤ 8) (hm : outW R K S p = m) (hn : outW C K S p = n) (m2 : m ≤ 20) (n2 : n ≤ 20) :
    (Lk.wins (winF R C K S p) n m n).Nodup ∧ (Lk.looks (lookG R C K S p) C R C).length = (Lk.wins (winF R C K S p) n m n).length ∧
    ∀ (r c : Nat), r < R → c < C → ∀ w ∈ lookG R C K S p r c, (Lk.wins (winF R C K S p) n m n).count (Lk.lkey ((r : Int) * C + c) w) = 1 ∧ Ct.Fine 4 (Lk.lkey ((r : Int) * C + c) w) := by
  have nd : ∀ y x : Int, ((winF R C K S p y x).map (·.2)).Nodup := fun y x => (Wn.nodup_win _ _ _ _ _ _).1
  have hf : ∀ (y x : Nat), y < m → x < n → ∀ w ∈ winF R C K S p y x, ∃ r c : Nat, r < R ∧ c < C ∧ w.1 = (r : Int) * C + c := fun y x _ _ w hw => by
    obtain ⟨i, j, _, _, h1, h2, rfl⟩ := Wn.mem_win.1 hw
    exact ⟨((y : Int) * S - p + i).toNat, ((x : Int) * S - p + j).toNat, by omega, by omega, by simp only []; rw [Int.toNat_of_nonneg h1.1, Int.toNat_of_nonneg h2.1]⟩
  have nw : (Lk.wins (winF R C K S p) n m n).Nodup := Lk.nodup_wins (Int.le_refl _) nd
  have fine : ∀ k ∈ Lk.wins (winF R C K S p) n m n, Ct.Fine 4 k := fun k hk => by
    obtain ⟨y, x, hy, hx, w, hw, rfl⟩ := Lk.mem_wins.1 hk
    have b1 := winF_bound (show (R : Int) ≤ 16 by omega) (show (C : Int) ≤ 16 by omega) C1 hw
    obtain ⟨i, j, hi, hj, _, _, rfl⟩ := Wn.mem_win.1 hw
    have z0 : (0 : Int) ≤ (y : Int) * n := Int.mul_nonneg (by omega) (by omega)
    have z1 : (y : Int) * n ≤ 20 * 20 := Int.mul_le_mul (by omega) (by omega) (by omega) (by omega)
    refine ⟨rfl, fun v hv => ?_⟩
    simp only [Lk.wkey, List.mem_cons, List.not_mem_nil, or_false] at hv
    rcases hv with rfl | rfl | rfl | rfl
    · exact WalkArith.wf_i64 (by omega)
    · exact WalkArith.wf_i64 (by omega)
    · exact WalkArith.wf_i64 (by omega)
    · exact WalkArith.wf_i64 (by omega)
  have key : (∀ k, k ∈ Lk.looks (lookG R C K S p) C R C ↔ k ∈ Lk.wins (winF R C K S p) n m n) ∧ ∀ (r c : Nat), r < R → c < C → (lookG R C K S p r c).Nodup := by
    by_cases h : 1 ≤ m ∧ 1 ≤ n
    · have hg : ∀ (r c : Nat), r < R → c < C → lookG R C K S p r c = Lk.all (winF R C K S p) n ((r : Int) * C + c) m n := fun r c hr hc => by
        unfold lookG lookW
        rw [if_pos ⟨by omega, by omega, by omega, by omega, by omega, by omega⟩, hm, hn, Int.toNat_natCast, Int.toNat_natCast]
      exact ⟨Lk.both rfl hg hf, fun r c hr hc => by rw [hg r c hr hc]; exact Lk.nodup_all (Int.le_refl _) nd⟩
    · have hg : ∀ (r c : Int), lookG R C K S p r c = [] := fun r c => by
        unfold lookG lookW
        rw [if_neg (fun g => h ⟨by have := g.1; omega, by have := g.2.1; omega⟩)]
      refine ⟨fun k => ⟨fun hk => ?_, fun hk => ?_⟩, fun r c _ _ => by rw [hg]; simp⟩
      · obtain ⟨y, x, _, _, w, hw, _⟩ := Lk.mem_looks.1 hk
        rw [hg] at hw
        simp at hw
      · obtain ⟨y, x, hy, hx, _⟩ := Lk.mem_wins.1 hk
        exact absurd ⟨by omega, by omega⟩ h
  refine ⟨nw, Lk.length_of_mem (Lk.nodup_looks (Int.le_refl _) key.2) nw key.1, fun r c hr hc w hw => ?_⟩
  have hk := (key.1 _).1 (Lk.mem_looks.2 ⟨r, c, hr, hc, w, hw, rfl⟩)
  refine ⟨?_, fine _ hk⟩
  have h1 := List.nodup_iff_count.1 nw (Lk.lkey ((r : Int) * C + c) w)
  have h2 := List.count_pos_iff.2 hk
  omega
set_option maxRecDepth 100000 in
set_option maxHeartbeats 8000000 in
theorem placeBoth_any (a0 a1 a2 a3 a4 : Int) (w : World) (w0 : (Lit.int .i64 a0).wf = true) (w1 : (Lit.int .i64 a1).wf = true) (w2 : (Lit.int .i64 a2).wf = true) (w3 : (Lit.int .i64 a3).wf = true) (w4 : (Lit.int .i64 a4).wf = true) :
    Calls Try.prog 7 #[.int .i64 a0, .int .i64 a1, .int .i64 a2, .int .i64 a3, .int .i64 a4] w fun e w' => e = .returned (.bool true) ∧ Below w.heap.size w w' := by
  clear w0 w1 w2 w3 w4
  have hmm := @run_makeMap Try.prog
  obtain ⟨t0, ht0, hu0⟩ := umod_const a0 8 (by decide)
  obtain ⟨t1, ht1, hu1⟩ := umod_const a1 8 (by decide)
  obtain ⟨t2, ht2, hu2⟩ := umod_const a2 5 (by decide)
  obtain ⟨t3, ht3, hu3⟩ := umod_const a3 4 (by decide)
  obtain ⟨t4, ht4, hu4⟩ := umod_const a4 (1 + (t2 : Int)) (by omega)
  go_enter Try.func7, Try.ntmps7
  go_wp2_with fail
  have RR : (1 + t0 : Nat) ≤ 8 := by omega
  have CC : (1 + t1 : Nat) ≤ 8 := by omega
  generalize hR : 1 + (t0 : Int) = R at *
  generalize hC : 1 + (t1 : Int) = C at *
  generalize hK : 1 + (t2 : Int) = K at *
  generalize hS : 1 + (t3 : Int) = S at *
  generalize hP : (t4 : Int) = p at *
  obtain ⟨RN, rfl⟩ : ∃ n : Nat, R = n := ⟨R.toNat, by omega⟩
  obtain ⟨CN, rfl⟩ : ∃ n : Nat, C = n := ⟨C.toNat, by omega⟩
  have R1 : 1 ≤ (RN : Int) := by omega
  have R2 : (RN : Int) ≤ 8 := by omega
  have C1 : 1 ≤ (CN : Int) := by omega
  have C2 : (CN : Int) ≤ 8 := by omega
  have K1 : 1 ≤ K := by omega
  have K2 : K ≤ 5 := by omega
  have S1 : 1 ≤ S := by omega
  have S2 : S ≤ 4 := by omega
  have P1 : 0 ≤ p := by omega
  have P2 : p ≤ K - 1 := by omega
  clear hR hC hK hS hP hu0 hu1 hu2 hu3 hu4 ht0 ht1 ht2 ht3 ht4 RR CC
  have o1 := outW_max RN K S p
  have o2 := outW_max CN K S p
  have HW := Lib.hid (fun (r c : Int) (h : winOk RN CN r c K S p) (w : World) => (show winW RN CN r c K S p = winF RN CN K S p r c from by unfold winW; rw [if_pos h]; rfl) ▸ (window_any RN CN r c K S p w))
  have HF := Lib.hid (fun a b => winF_small (rows := RN) (cols := CN) (s := S) (p := p) K2 a b)
  have HBD := Lib.hid (fun y x (t : Int × Int × Int) (h : t ∈ winF RN CN K S p y x) => winF_bound (show (RN : Int) ≤ 16 by omega) (show (CN : Int) ≤ 16 by omega) C1 h)
  refine (refO_any RN K S p _).mono ?_
  rintro e w' ⟨rfl, rfl⟩
  go_wp2_with fail
  refine (refO_any CN K S p _).mono ?_
  rintro e w' ⟨rfl, rfl⟩
  have HWO := Lib.hid (fun (r c : Int) (h0 : 0 ≤ r) (h1 : r < outW RN K S p) (h2 : 0 ≤ c) (h3 : c < outW CN K S p) => show winOk RN CN r c K S p from ⟨by omega, by omega, by omega, by omega, by omega, by omega⟩)
  have HSM := Lib.hid (fun (y x : Int) (t : Int × Int × Int) (h : t ∈ winF RN CN K S p y x) => show 0 ≤ t.2.1 ∧ t.2.1 ≤ 4 ∧ 0 ≤ t.2.2 ∧ t.2.2 ≤ 4 from by
    obtain ⟨i, j, hi, hj, h1, h2, rfl⟩ := Wn.mem_win.1 h
    simp only []
    omega)
  have HLK := Lib.hid (fun (r c : Int) w => show Calls Try.prog 23 #[.int .i64 RN, .int .i64 CN, .int .i64 r, .int .i64 c, .int .i64 K, .int .i64 S, .int .i64 p] w (GivesWin (lookG RN CN K S p r c) w) from lookers_any RN CN r c K S p w (WalkArith.wf_i64 (by omega)) (WalkArith.wf_i64 (by omega)))
  obtain ⟨m, hm⟩ : ∃ m : Nat, outW RN K S p = m := ⟨(outW RN K S p).toNat, by omega⟩
  obtain ⟨n, hn⟩ : ∃ n : Nat, outW CN K S p = n := ⟨(outW CN K S p).toNat, by omega⟩
  obtain ⟨hb1, hb2, hb3⟩ := both_law RN CN m n K S p K2 R2 C1 C2 hm hn (by omega) (by omega)
  have HB1 := Lib.hid hb1
  have HB2 := Lib.hid hb2
  have HB3 := Lib.hid hb3
  rw [hm] at o1 HWO ⊢
  rw [hn] at o2 HWO ⊢
  clear hm hn hb1 hb2 hb3
  generalize winF RN CN K S p = F at *
  generalize lookG RN CN K S p = G at *
  go_wp2_with fail
  have HM := Lib.hid (Ct.made (P := Try.prog) (k := 48) (e := 3) (n := 4) w)
  have BM := Lib.hid (below_alloc w (Obj.map #[] 0))
  generalize w.alloc (Obj.map #[] 0) = wm at *
  generalize hbm : w.heap.size = bm at *
  have HBM := Lib.hid hbm
  clear hbm hmm
  go_loopw [14, 61] (fun cnt i wr => ∃ Y : Nat, Y ≤ m ∧ i = .int .i64 Y ∧ cnt = .int .i64 ((Lk.wins F n Y n).length : Nat) ∧ Ct.At Try.prog 48 3 4 wr bm (Lk.wins F n Y n) ∧ Below bm w wr) (fun _ i _ => m - (intOf i).toNat)
  case atStart => exact ⟨0, Nat.zero_le _, rfl, rfl, HM.out, BM.out⟩
  case round =>
    obtain ⟨Y, hY, rfl, rfl, hat, hbn⟩ := hrel
    have AT := Lib.hid hat
    have BN := Lib.hid hbn
    clear hat hbn
    obtain ⟨wo, rfl⟩ : ∃ wo : World, wo = wr := ⟨_, rfl⟩
    by_cases hlt : Y < m
    · go_wp2_with fail
      go_loopw [14, 65] (fun cnt i wr => ∃ X : Nat, X ≤ n ∧ i = .int .i64 X ∧ cnt = .int .i64 ((Lk.part F n n Y X).length : Nat) ∧ Ct.At Try.prog 48 3 4 wr bm (Lk.part F n n Y X) ∧ Below bm w wr) (fun _ i _ => n - (intOf i).toNat)
      case atStart => exact ⟨0, Nat.zero_le _, rfl, by rw [Lk.part_zero], by rw [Lk.part_zero]; exact AT.out, BN.out⟩
      case round =>
        clear AT BN
        obtain ⟨X, hX, rfl, rfl, hat, hbn⟩ := hrel
        have AT := Lib.hid hat
        have BN := Lib.hid hbn
        clear hat hbn
        obtain ⟨wo2, rfl⟩ : ∃ wo2 : World, wo2 = wr := ⟨_, rfl⟩
        by_cases hlx : X < n
        · have hok := HWO.out Y X (by omega) (by omega) (by omega) (by omega)
          have PW := Lib.hid (HW.out Y X hok)
          clear hok
          go_wp2_with fail
          refine (PW.out _).mono ?_
          rintro e w3 ⟨a, l3, c3, rfl, hw3, hb3⟩
          have hl25 : l3 ≤ 25 := by rw [← hw3.1]; exact HF.out _ _
          have W3 := Lib.hid hw3
          have AT2 := Lib.hid (AT.out.below hb3)
          have BN2 := Lib.hid ((HBM.out ▸ (BN.out.trans (hb3.mono (HBM.out ▸ BN.out.size)))) : Below bm w w3)
          clear hw3 hb3 AT BN PW
          go_wp2_with fail
          go_loopw [14, 77] (fun cnt i wr => ∃ J : Nat, J ≤ l3 ∧ i = .int .i64 J ∧ cnt = .int .i64 ((Lk.partJ F n n Y X J).length : Nat) ∧ Ct.At Try.prog 48 3 4 wr bm (Lk.partJ F n n Y X J) ∧ WinAt wr a l3 (F Y X) ∧ Below bm w wr) (fun _ i _ => l3 - (intOf i).toNat)
          case atStart => exact ⟨0, Nat.zero_le _, rfl, by rw [Lk.partJ_zero], by rw [Lk.partJ_zero]; exact AT2.out, W3.out, BN2.out⟩
          case round =>
            clear AT2 W3 BN2
            obtain ⟨J, hJ, rfl, rfl, hat, hwin, hbn⟩ := hrel
            have AT := Lib.hid hat
            have BN := Lib.hid hbn
            have GW := Lib.hid hwin
            clear hat hbn hwin
            by_cases hlj : J < l3
            · obtain ⟨ga, rfl, hga, hc⟩ := GW.out.2.resolve_left (by omega)
              obtain ⟨f0, f1, f2⟩ := hc J hlj
              obtain ⟨hsn, hmem⟩ := Lk.partJ_succ F n n Y X J (by rw [GW.out.1]; exact hlj)
              have hbd := HBD.out _ _ _ hmem
              obtain ⟨ty0, ty1, tz0, tz1⟩ := HSM.out _ _ _ hmem
              rw [Nat.mul_comm 3 J] at f0 f1 f2
              have hcn := Lk.partJ_le F n n Y X J HF.out (by omega) (by omega) (by omega)
              have z0 : (0 : Int) ≤ (Y : Int) * n := Int.mul_nonneg (by omega) (by omega)
              have z1 : (Y : Int) * n ≤ 20 * 20 := Int.mul_le_mul (by omega) (by omega) (by omega) (by omega)
              generalize Lk.partJ F n n Y X J = L at *
              have HS := Lib.hid hsn
              clear hmem hc hsn
              generalize (F Y X).getD J (0, 0, 0) = tt at *
              obtain ⟨x, y, z⟩ := tt
              simp only [] at hbd ty0 ty1 tz0 tz1
              obtain ⟨bd1, bd2⟩ := hbd
              have hx : Ct.Fine 4 [(Y : Int) * n + X, x, y, z] := by
                refine ⟨rfl, fun v hv => ?_⟩
                simp at hv
                rcases hv with rfl | rfl | rfl | rfl
                · exact WalkArith.wf_i64 (by omega)
                · exact WalkArith.wf_i64 (by omega)
                · exact WalkArith.wf_i64 (by omega)
                · exact WalkArith.wf_i64 (by omega)
              have HX := Lib.hid hx
              clear hx
              go_wp2_with fail
              have AT2 := Lib.hid (AT.out.alloc (Obj.cells #[.int .i64 x, .int .i64 y, .int .i64 z] 30))
              have BN2 := Lib.hid (BN.out.alloc (by rw [← HBM.out]; exact BN.out.size) (Obj.cells #[.int .i64 x, .int .i64 y, .int .i64 z] 30))
              have GW2 := Lib.hid (GW.out.below (below_alloc wr (Obj.cells #[.int .i64 x, .int .i64 y, .int .i64 z] 30)))
              have g0 : (wr.alloc (Obj.cells #[.int .i64 x, .int .i64 y, .int .i64 z] 30)).cell? ⟨wr.heap.size, 0, none⟩ = some (.int .i64 x) := Wn.new3 wr _ _ _ _ 0 _ rfl
              have g1 : (wr.alloc (Obj.cells #[.int .i64 x, .int .i64 y, .int .i64 z] 30)).cell? ⟨wr.heap.size, 1, none⟩ = some (.int .i64 y) := Wn.new3 wr _ _ _ _ 1 _ rfl
              have g2 : (wr.alloc (Obj.cells #[.int .i64 x, .int .i64 y, .int .i64 z] 30)).cell? ⟨wr.heap.size, 2, none⟩ = some (.int .i64 z) := Wn.new3 wr _ _ _ _ 2 _ rfl
              have hoff := AT.out.off f0
              clear f0 f1 f2 hga AT BN GW
              generalize wr.alloc (Obj.cells #[.int .i64 x, .int .i64 y, .int .i64 z] 30) = wq at *
              generalize wr.heap.size = gq at *
              have hc0 : L.count [(Y : Int) * n + X, x, y, z] ≤ L.length := List.count_le_length
              obtain ⟨v0, st, w1, w2, e1, e2, e3, hat2, hgr⟩ := (AT2.out.drew).bump kind4 (by unfold maxLen; omega) HX.out
              have e0 := (AT2.out.drew).look kind4 HX.out
              have e0 : (Instr.lookup 47 (.map (some bm)) (.agg #[.int .i64 ((Y : Int) * n + X), .int .i64 x, .int .i64 y, .int .i64 z]) false).run Try.prog wq.drew = _ := e0
              have e1 : (Instr.mapEntry 47 (.map (some bm)) (.agg #[.int .i64 ((Y : Int) * n + X), .int .i64 x, .int .i64 y, .int .i64 z])).run Try.prog wq.drew = _ := e1
              have e2 : (Instr.lookup 47 (.map (some bm)) (.agg #[.int .i64 ((Y : Int) * n + X), .int .i64 x, .int .i64 y, .int .i64 z]) false).run Try.prog w1 = _ := e2
              have HAT := Lib.hid hat2
              have HGW := Lib.hid ((GW2.out.below (below_drewN wq 1)).grown hgr (fun x hx => by cases hx; exact hoff))
              have HGR := Lib.hid ((⟨BN2.out.os, BN2.out.tape, BN2.out.output, BN2.out.size, BN2.out.block⟩ : Below bm w wq.drew).grown hgr (by show bm ≤ wq.heap.size; rw [← HBM.out]; exact BN2.out.size) (fun i hi => by cases hi; exact Nat.le_refl _))
              generalize L.count [(Y : Int) * n + X, x, y, z] = cn at *
              clear hat2 hgr hoff
              have q1 : IntKind.i64.wrap ((Y : Int) * n) = (Y : Int) * n := IntWalk.i64_in _ (by omega)
              have q2 : IntKind.i64.wrap ((Y : Int) * n + X) = (Y : Int) * n + X := IntWalk.i64_in _ (by omega)
              go_region
              clear e0 e1 e2 e3 g0 g1 g2 hc0 q1 q2
              go_wp2
              go_roundw
              case rel => exact ⟨J + 1, by omega, by go_num, by rw [HS.out, List.length_append]; go_num, by rw [HS.out]; exact HAT.out, HGW.out, HGR.out⟩
              case measure => simp [intOf]; omega
            · have hje : J = l3 := by omega
              have hap := Lk.partJ_full F n n Y X J (by rw [GW.out.1, hje])
              rw [hap] at AT ⊢
              clear hje hap
              go_wp2
              go_roundw
              case rel => exact ⟨X + 1, by omega, by go_num, rfl, AT.out, BN.out⟩
              case measure => simp [intOf]; omega
        · have hxe : X = n := by omega
          rw [hxe] at AT ⊢
          have hap := Lk.part_full F n n Y
          rw [hap] at AT ⊢
          clear hxe hap
          go_wp2
          go_roundw
          case rel => exact ⟨Y + 1, by omega, by go_num, rfl, AT.out, BN.out⟩
          case measure => simp [intOf]; omega
    · have hye : Y = m := by omega
      rw [hye] at AT ⊢
      have hw20 := Lk.wins_le F n m n HF.out (by omega) (by omega)
      generalize Lk.wins F n m n = W at *
      clear hye hlt HW HF HBD HWO HSM
      go_wp2_with (at_len; refine Ct.wpList_len kind4 _ rfl _ rfl bm _ rfl AT.out HB1.out ?_)
      go_loopw [14, 108] (fun cnt i wr => ∃ Y : Nat, Y ≤ RN ∧ i = .int .i64 Y ∧ cnt = .int .i64 ((W.length : Nat) - ((Lk.looks G CN Y CN).length : Nat)) ∧ Below wo.heap.size wo wr) (fun _ i _ => RN - (intOf i).toNat)
      case atStart => exact ⟨0, Nat.zero_le _, rfl, by rw [Lk.looks_zero]; go_num, Below.refl _ _⟩
      case round =>
        obtain ⟨Y, hY, rfl, rfl, hbx⟩ := hrel
        have BX := Lib.hid hbx
        clear hbx
        obtain ⟨wp, rfl⟩ : ∃ wp : World, wp = wr := ⟨_, rfl⟩
        by_cases hlt : Y < RN
        · go_wp2_with fail
          go_loopw [14, 112] (fun cnt i wr => ∃ X : Nat, X ≤ CN ∧ i = .int .i64 X ∧ cnt = .int .i64 ((W.length : Nat) - ((Lk.lpart G CN CN Y X).length : Nat)) ∧ Below wo.heap.size wo wr) (fun _ i _ => CN - (intOf i).toNat)
          case atStart => exact ⟨0, Nat.zero_le _, rfl, by rw [Lk.lpart_zero], BX.out⟩
          case round =>
            clear BX
            obtain ⟨X, hX, rfl, rfl, hbx⟩ := hrel
            have BX := Lib.hid hbx
            clear hbx
            obtain ⟨wp2, rfl⟩ : ∃ wp2 : World, wp2 = wr := ⟨_, rfl⟩
            by_cases hlx : X < CN
            · go_wp2_with fail
              refine (HLK.out Y X _).mono ?_
              rintro e w3 ⟨a, l3, c3, rfl, hw3, hb3⟩
              have hl3 : l3 ≤ 20000 := by
                have := Lk.get_le G CN RN CN Y X hlx hlt
                rw [HB2.out, hw3.1] at this
                omega
              have W3 := Lib.hid hw3
              have BX2 := Lib.hid (BX.out.step hb3)
              clear hw3 hb3 BX
              go_wp2_with fail
              go_loopw [14, 124] (fun cnt i wr => ∃ J : Nat, J ≤ l3 ∧ i = .int .i64 J ∧ cnt = .int .i64 ((W.length : Nat) - ((Lk.lpartJ G CN CN Y X J).length : Nat)) ∧ Below w3.heap.size w3 wr) (fun _ i _ => l3 - (intOf i).toNat)
              case atStart => exact ⟨0, Nat.zero_le _, rfl, by rw [Lk.lpartJ_zero], Below.refl _ _⟩
              case round =>
                obtain ⟨J, hJ, rfl, rfl, hbx⟩ := hrel
                have BX := Lib.hid hbx
                clear hbx
                by_cases hlj : J < l3
                · obtain ⟨ga, rfl, hga, hc⟩ := (W3.out.below BX.out).2.resolve_left (by omega)
                  obtain ⟨f0, f1, f2⟩ := hc J hlj
                  obtain ⟨hsn, hmem⟩ := Lk.lpartJ_succ G CN CN Y X J (by rw [W3.out.1]; exact hlj)
                  have hle := Lk.lpartJ_le G CN RN CN Y X J hlx hlt (by rw [W3.out.1]; omega)
                  rw [HB2.out] at hle
                  obtain ⟨hcount, hfine⟩ := HB3.out Y X hlt hlx _ hmem
                  rw [Nat.mul_comm 3 J] at f0 f1 f2
                  have z0 : (0 : Int) ≤ (Y : Int) * CN := Int.mul_nonneg (by omega) (by omega)
                  have z1 : (Y : Int) * CN ≤ 8 * 8 := Int.mul_le_mul (by omega) (by omega) (by omega) (by omega)
                  have HS := Lib.hid hsn
                  have HC := Lib.hid hcount
                  have HX := Lib.hid hfine
                  clear hsn hmem hc hcount hfine
                  generalize (G Y X).getD J (0, 0, 0) = tt at *
                  obtain ⟨x, y, z⟩ := tt
                  generalize (Lk.lpartJ G CN CN Y X J).length = len at *
                  have BX3 := Lib.hid (BX.out.step (below_alloc wr (Obj.cells #[.int .i64 x, .int .i64 y, .int .i64 z] 30)))
                  have g0 : (wr.alloc (Obj.cells #[.int .i64 x, .int .i64 y, .int .i64 z] 30)).cell? ⟨wr.heap.size, 0, none⟩ = some (.int .i64 x) := Wn.new3 wr _ _ _ _ 0 _ rfl
                  have g1 : (wr.alloc (Obj.cells #[.int .i64 x, .int .i64 y, .int .i64 z] 30)).cell? ⟨wr.heap.size, 1, none⟩ = some (.int .i64 y) := Wn.new3 wr _ _ _ _ 1 _ rfl
                  have g2 : (wr.alloc (Obj.cells #[.int .i64 x, .int .i64 y, .int .i64 z] 30)).cell? ⟨wr.heap.size, 2, none⟩ = some (.int .i64 z) := Wn.new3 wr _ _ _ _ 2 _ rfl
                  have e0 : (Instr.lookup 47 (.map (some bm)) (.agg #[.int .i64 x, .int .i64 ((Y : Int) * CN + X), .int .i64 y, .int .i64 z]) false).run Try.prog (wr.alloc (Obj.cells #[.int .i64 x, .int .i64 y, .int .i64 z] 30)) = .ok (.int .i64 1) (wr.alloc (Obj.cells #[.int .i64 x, .int .i64 y, .int .i64 z] 30)) := by
                    have := (AT.out.below (BX2.out.step BX3.out)).look kind4 HX.out
                    rw [HC.out] at this
                    exact this
                  clear hga BX
                  go_wp2
                  clear e0 g0 g1 g2
                  go_roundw
                  case rel => exact ⟨J + 1, by omega, by go_num, by rw [HS.out]; go_num, BX3.out⟩
                  case measure => simp [intOf]; omega
                · have hje : J = l3 := by omega
                  have hap := Lk.lpartJ_full G CN CN Y X J (by rw [W3.out.1, hje])
                  have BX3 := Lib.hid (BX2.out.step BX.out)
                  rw [hap]
                  clear hje hap BX BX2
                  go_wp2
                  go_roundw
                  case rel => exact ⟨X + 1, by omega, by go_num, rfl, BX3.out⟩
                  case measure => simp [intOf]; omega
            · have hxe : X = CN := by omega
              have hap := Lk.lpart_full G CN CN Y
              rw [hxe, hap]
              clear hxe hap
              go_wp2
              go_roundw
              case rel => exact ⟨Y + 1, by omega, by go_num, rfl, BX.out⟩
              case measure => simp [intOf]; omega
        · have hye : Y = RN := by omega
          rw [hye, HB2.out]
          have B2 := Lib.hid ((HBM.out.symm ▸ BN.out : Below w.heap.size w wo).step BX.out)
          clear hye hlt
          go_wp2_with (go_at_call 14; refine (aw9_any _).mono ?_; rintro e w3 ⟨rfl, hb⟩)
          go_ret
          exact ⟨rfl, B2.out.step hb⟩
end Go.Proofs.Ytmebchgjofpepaa
