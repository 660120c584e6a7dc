/-
  The windows of all planes, one behind the other: what is done with each is told by a contract.
-/
import Derived.Test.YtaijiihlkcbdhaaPoolOver
namespace Go.Proofs.Ytaijiihlkcbdhaa
open Go.RowKit
set_option linter.unusedVariables false
attribute [local go_sem ↓] Go.wp_at_zero Go.wp_at_succ
/-- The numbers of a window's elements. -/
def ix (R C k s : Int) (Q : Nat) (n i : Nat) : List Int := (winW R C (i / Q : Nat) (i % Q : Nat) k s 0).map (fun t => n * R * C + t.1)
theorem WinAt.below {w w' : World} {a : Option Addr} {n : Nat} {L : List (Int × Int × Int)} (h : WinAt w a n L) (hb : Below w.heap.size w w') : WinAt w' a n L := by
  obtain ⟨h1, h2⟩ := h
  refine ⟨h1, h2.imp id ?_⟩
  rintro ⟨g, e, hg, hc⟩
  refine ⟨g, e, Nat.lt_of_lt_of_le hg hb.size, fun j hj => ?_⟩
  obtain ⟨f1, f2, f3⟩ := hc j hj
  exact ⟨hb.cell_of f1, hb.cell_of f2, hb.cell_of f3⟩
theorem winW_small (rows cols r c k s p : Int) : (winW rows cols r c k s p).length ≤ 25 := by
  unfold winW
  split
  · rename_i hok
    obtain ⟨b1, b2, b3, b4, b5, b6, b7, b8, b9⟩ := outW_bound hok.1
    have := Wn.length_win rows cols (r * s - p) (c * s - p) k.toNat k.toNat
    have := Nat.mul_le_mul (show k.toNat ≤ 5 by omega) (show k.toNat ≤ 5 by omega)
    omega
  · simp
theorem Wn.mem_win {rows cols y x : Int} {n k : Nat} {t : Int × Int × Int} : t ∈ win rows cols y x n k ↔ ∃ i j : Nat, i < n ∧ j < k ∧ (0 ≤ y + i ∧ y + i ≤ rows - 1) ∧ (0 ≤ x + j ∧ x + j ≤ cols - 1) ∧ t = ((y + i) * cols + (x + j), (i : Int), (j : Int)) := by
  unfold win row
  simp only [List.mem_flatMap, List.mem_range]
  constructor
  · rintro ⟨i, hi, j, hj, h⟩
    unfold cell at h
    split at h
    · rename_i hc
      exact ⟨i, j, hi, hj, hc.1, hc.2, by simpa using h⟩
    · simp at h
  · rintro ⟨i, j, hi, hj, h1, h2, h⟩
    refine ⟨i, hi, j, hj, ?_⟩
    unfold cell
    rw [if_pos ⟨h1, h2⟩, h]
    simp
theorem winW_bound {rows cols r c k s p : Int} {t : Int × Int × Int} (h : t ∈ winW rows cols r c k s p) : 0 ≤ t.1 ∧ t.1 ≤ rows * cols - 1 ∧ t.1 ≤ 300 := by
  unfold winW at h
  split at h
  · rename_i hok
    obtain ⟨b1, b2, _⟩ := outW_bound hok.1
    obtain ⟨b3, b4, _⟩ := outW_bound hok.2.1
    obtain ⟨i, j, hi, hj, h1, h2, rfl⟩ := Wn.mem_win.1 h
    have m1 := Int.mul_nonneg h1.1 (show 0 ≤ cols by omega)
    have m2 := Int.mul_le_mul h1.2 (Int.le_refl cols) (by omega) (by omega)
    have m3 := Int.mul_le_mul b2 b4 (by omega) (by omega)
    rw [Int.sub_mul, Int.one_mul] at m2
    simp only []
    omega
  · simp at h
theorem Wn.take_get (L : List (Int × Int × Int)) (j : Nat) (h : j < L.length) : L.take (j + 1) = L.take j ++ [L.getD j (0, 0, 0)] ∧ L.getD j (0, 0, 0) ∈ L := by
  have e : L.getD j (0, 0, 0) = L[j] := by simp [List.getD, h]
  rw [e, List.take_succ_eq_append_getElem h]
  exact ⟨rfl, List.getElem_mem h⟩
theorem wrap_small (y : Nat) (h : y ≤ 1000000) : IntKind.i64.wrap (y : Int) = y := IntWalk.i64_in _ (by omega)
/-- What the call owns, as a row. -/
theorem RowAt.ownedAny {k : IntKind} {w : World} {base e n : Nat} {v : Value} {zs : List Int} (h : w.ownsRow base e 1 v n (zs.map (Value.int k))) (hw : ∀ z ∈ zs, (Lit.int k z).wf = true) (hl : n ≤ 140737488351232) :
    ∃ a c, v = .slice a n c ∧ RowAt k w a n zs := by
  rcases h.2 with ⟨h1, h2⟩ | ⟨g, cap, cur, h1, _⟩
  · have hz : zs = [] := by have := h.1; rw [h2] at this; simpa using this
    subst hz
    exact ⟨none, 0, by rw [h1, h2], by rw [h2]; exact RowAt.zero k none w⟩
  · rw [h1] at h
    exact ⟨_, _, h1, RowAt.owned h hw hl⟩
set_option maxHeartbeats 8000000 in
theorem each_own (F : Nat) (caps : Array Value) (Inv : Nat → World → Prop) (R C k s : Int) (P Q N : Nat) (w : World) (hP : outW R k s 0 = P) (hQ : outW C k s 0 = Q) (hP0 : 0 < P) (hQ0 : 0 < Q) (hN : N ≤ 8192) (hF : ∀ args w, (callFunc F args).run Try.prog w = .ok (.enter F args) w)
    (h0 : Inv 0 (w.alloc (.cells #[.int .i64 R, .int .i64 C, .int .i64 k, .int .i64 s, .int .i64 P, .int .i64 Q] 54)))
    (hbox : ∀ i wr, Inv i wr → w.heap.size < wr.heap.size ∧ ∀ j, j < 6 → wr.cell? ⟨w.heap.size, j, none⟩ = #[Value.int .i64 R, .int .i64 C, .int .i64 k, .int .i64 s, .int .i64 P, .int .i64 Q][j]?)
    (hbelow : ∀ i w1 w2, Inv i w1 → Below w1.heap.size w1 w2 → Inv i w2)
    (hstep : ∀ n i a l c wr, n < N → i < P * Q → Inv (n * (P * Q) + i) wr → RowAt .i64 wr a l (ix R C k s Q n i) → (∀ x, a = some x → w.heap.size ≤ x.block) → Calls Try.prog F (#[.int .i64 ((n * (P * Q) + i : Nat) : Int), .slice a l c] ++ caps) wr fun e w' => e = .returned (.tuple #[]) ∧ Inv (n * (P * Q) + i + 1) w') :
    Calls Try.prog 26 #[windows R C k s P Q, .int .i64 N, .func (.func F) #[] caps] w fun e w' => e = .returned (.tuple #[]) ∧ Inv (N * (P * Q)) w' := by
  have hb := outW_bound (n := R) (k := k) (s := s) (p := 0) (by omega)
  have hb2 := outW_bound (n := C) (k := k) (s := s) (p := 0) (by omega)
  obtain ⟨r1, r2, k1, k2, s1, s2, _, _, p20⟩ := hb
  obtain ⟨cc1, cc2, _, _, _, _, _, _, q20⟩ := hb2
  rw [hP] at p20
  rw [hQ] at q20
  have H0 := Lib.hid h0
  have HB := Lib.hid hbox
  have HL := Lib.hid hbelow
  have HS := Lib.hid hstep
  have HW := Lib.hid (fun y x w => window_any R C y x k s 0 w)
  clear h0 hbox hbelow hstep hP hQ
  have z1 : P * Q ≤ 20 * 20 := Nat.mul_le_mul (by omega) (by omega)
  have hMi : (P : Int) * (Q : Int) = ((P * Q : Nat) : Int) := (Int.natCast_mul P Q).symm
  have hMm := Lib.hid (fun n : Nat => show (n : Int) * P * Q = ((n * (P * Q) : Nat) : Int) from by rw [Int.natCast_mul, Int.natCast_mul, Int.mul_assoc])
  generalize P * Q = M at *
  have z2 := Lib.hid (fun n (h : n < N) => show n * M ≤ 8192 * 400 from Nat.mul_le_mul (by omega) (by omega))
  unfold windows
  go_enter Try.func26, Try.ntmps26
  go_wp2_with fail
  go_loopw [12] (fun i wr => ∃ n : Nat, n ≤ N ∧ i = .int .i64 n ∧ Inv (n * M) wr) (fun i _ => N - (intOf i).toNat)
  case atStart => exact ⟨0, Nat.zero_le _, rfl, by rw [Nat.zero_mul]; exact H0.out⟩
  case round =>
    obtain ⟨n, hn, rfl, hinv⟩ := hrel
    have HI := Lib.hid hinv
    clear hinv
    obtain ⟨wo, rfl⟩ : ∃ wo : World, wo = wr := ⟨_, rfl⟩
    by_cases hlt : n < N
    · have f4 := (HB.out _ _ HI.out).2 4 (by omega)
      have f5 := (HB.out _ _ HI.out).2 5 (by omega)
      simp at f4 f5
      go_wp2_with fail
      clear f4 f5
      go_loopw [20] (fun i wr => ∃ m : Nat, m ≤ M ∧ i = .int .i64 m ∧ Inv (n * M + m) wr) (fun i _ => M - (intOf i).toNat)
      case atStart => exact ⟨0, Nat.zero_le _, rfl, HI.out⟩
      case round =>
        clear HI
        obtain ⟨m, hm, rfl, hinv⟩ := hrel
        have HI := Lib.hid hinv
        clear hinv
        obtain ⟨wo2, rfl⟩ : ∃ wo2 : World, wo2 = wr := ⟨_, rfl⟩
        by_cases hlm : m < M
        · obtain ⟨hsz, hcs⟩ := HB.out _ _ HI.out
          have f0 := hcs 0 (by omega)
          have f1 := hcs 1 (by omega)
          have f2 := hcs 2 (by omega)
          have f3 := hcs 3 (by omega)
          have f4 := hcs 4 (by omega)
          have f5 := hcs 5 (by omega)
          simp at f0 f1 f2 f3 f4 f5
          clear hcs
          have hy1 : (m : Int).tdiv (Q : Int) = ((m / Q : Nat) : Int) := by rw [Int.tdiv_eq_ediv_of_nonneg (by omega), Int.natCast_ediv]
          have hx1 : (m : Int).tmod (Q : Int) = ((m % Q : Nat) : Int) := by rw [Int.tmod_eq_emod_of_nonneg (by omega), Int.natCast_emod]
          have hy2 : (m : Int) / (Q : Int) = ((m / Q : Nat) : Int) := (Int.natCast_ediv m Q).symm
          have hx2 : (m : Int) % (Q : Int) = ((m % Q : Nat) : Int) := (Int.natCast_emod m Q).symm
          have hix := Lib.hid (show ix R C k s Q n m = (winW R C (m / Q : Nat) (m % Q : Nat) k s 0).map (fun t => n * R * C + t.1) from rfl)
          have hq3 : ((Q : Int) == 0) = false := by simpa using (show (Q : Int) ≠ 0 by omega)
          have hy3 : IntKind.i64.wrap ((m / Q : Nat) : Int) = ((m / Q : Nat) : Int) := wrap_small _ (Nat.le_trans (Nat.div_le_self m Q) (by omega))
          have hx3 : IntKind.i64.wrap ((m % Q : Nat) : Int) = ((m % Q : Nat) : Int) := wrap_small _ (Nat.le_trans (Nat.mod_le m Q) (by omega))
          have hq4 : ¬ ((Q : Int) = 0) := by omega
          have hq5 : ¬ (Q = 0) := by omega
          generalize m / Q = y at *
          generalize m % Q = x at *
          go_wp2_with fail
          go_region_held3 (fun w' => w'.cell? ⟨w.heap.size, 0, none⟩ = some (.int .i64 R) ∧ w'.cell? ⟨w.heap.size, 1, none⟩ = some (.int .i64 C) ∧ w'.cell? ⟨w.heap.size, 2, none⟩ = some (.int .i64 k) ∧ w'.cell? ⟨w.heap.size, 3, none⟩ = some (.int .i64 s) ∧ w'.cell? ⟨w.heap.size, 5, none⟩ = some (.int .i64 Q)) (first | go_keep | (go_split_ands; refine ⟨hb3.cell_of ?_, hb3.cell_of ?_, hb3.cell_of ?_, hb3.cell_of ?_, hb3.cell_of ?_⟩ <;> go_keep))
            (first | (go_at_call 46; refine (HW.out _ _ _).mono ?_; rintro e w3 ⟨a, l3, c3, rfl, hw3, hb3⟩))
          have hl25 : l3 ≤ 25 := by rw [← hw3.1]; exact winW_small _ _ _ _ _ _ _
          have HI3 := Lib.hid (HL.out _ _ _ HI.out ((below_drewN wo2 1).step hb3))
          have HWM := Lib.hid (fun t (h : t ∈ winW R C y x k s 0) => winW_bound h)
          have HW3 := Lib.hid hw3
          generalize winW R C y x k s 0 = W at *
          have n1 : 0 ≤ (n : Int) * R := Int.mul_nonneg (by omega) (by omega)
          have n2 : (n : Int) * R ≤ 8192 * 16 := Int.mul_le_mul (by omega) (by omega) (by omega) (by omega)
          have n3 : 0 ≤ (n : Int) * R * C := Int.mul_nonneg n1 (by omega)
          have n4 : (n : Int) * R * C ≤ 8192 * 16 * 16 := Int.mul_le_mul n2 (by omega) (by omega) (by omega)
          clear f0 f1 f2 f3 f4 f5 hsz hw3 hb3 HI hy1 hx1 hy2 hx2 hy3 hx3 hq3 hq4 hq5
          obtain ⟨i0, hi, hz0, hz1, hz2⟩ := info_parts infoInt
          go_wp2_with fail
          go_loopw [8, 41] (fun l i wr => ∃ J : Nat, J ≤ l3 ∧ i = .int .i64 J ∧ wr.ownsRow w3.heap.size 3 1 l J (((W.take J).map (fun t => n * R * C + t.1)).map (Value.int .i64)) ∧ Below w3.heap.size w3 wr) (fun _ i _ => l3 - (intOf i).toNat)
          case atStart => exact ⟨0, Nat.zero_le _, rfl, World.ownsRow_nil _ _ _ _, Below.refl _ _⟩
          case round =>
            obtain ⟨J, hJ, rfl, hown, hnx⟩ := hrel
            have GO := Lib.hid hown
            have GN := Lib.hid hnx
            clear hown hnx
            by_cases hlj : J < l3
            · obtain ⟨ga, rfl, hga, hc⟩ := (HW3.out.below GN.out).2.resolve_left (by omega)
              obtain ⟨f0, f1, f2⟩ := hc J hlj
              obtain ⟨htk, hmem⟩ := Wn.take_get W J (by rw [HW3.out.1]; exact hlj)
              obtain ⟨bd1, _, bd2⟩ := HWM.out _ hmem
              rw [Nat.mul_comm 3 J] at f0 f1 f2
              have g0 := (HB.out _ _ (HL.out _ _ _ HI3.out GN.out)).2 0 (by omega)
              have g1 := (HB.out _ _ (HL.out _ _ _ HI3.out GN.out)).2 1 (by omega)
              simp at g0 g1
              have HT := Lib.hid htk
              clear hc htk hmem hga
              generalize W.getD J (0, 0, 0) = tt at *
              obtain ⟨tx, ty, tz⟩ := tt
              simp only [] at bd1 bd2
              have e0 := (below_alloc wr (Obj.cells #[.int .i64 tx, .int .i64 ty, .int .i64 tz] 68)).cell_of g0
              have e1 := (below_alloc wr (Obj.cells #[.int .i64 tx, .int .i64 ty, .int .i64 tz] 68)).cell_of g1
              clear g0 g1
              go_wp2_with (at_builtin; refine wpList_append_where _ rfl _ _ 22 rfl w3.heap.size 3 i0 (.int .i64 0) 1 8 Try.underlying22 hi hz0 hz1 hz2 rfl (by decide) _ J (((W.take J).map (fun t => n * R * C + t.1)).map (Value.int .i64)) rfl ((GO.out.alloc _).alloc _) ⟨wr.heap.size + 1, 0, none⟩ 1 1 [.int .i64 ((n : Int) * R * C + tx)] rfl rfl ?c1 ?c2 ?c3 ?c4 ?c5 ?c6 ?_)
              case c2 => rfl
              case c3 => unfold maxLen; omega
              case c4 => omega
              case c5 => have := GN.out.size; omega
              intro g c' w4 hown2 hgrow hgv hg1 hg2
              have GB := Lib.hid (below_app (GN.out.alloc GN.out.size _) (by have := GN.out.size; rw [World.size_alloc]; omega) (GO.out.alloc _) hgrow)
              have GO2 := Lib.hid (show w4.ownsRow w3.heap.size 3 1 (.slice (some ⟨g, 0, none⟩) (J + 1) c') (J + 1) (((W.take (J + 1)).map (fun t => n * R * C + t.1)).map (Value.int .i64)) from by
                rw [HT.out, List.map_append, List.map_append]
                simpa [List.map_take] using hown2)
              clear hown2 hgrow hgv e0 e1 f0 f1 f2
              go_wp2
              go_roundw
              case rel => exact ⟨J + 1, by omega, by go_num, GO2.out, GB.out⟩
              case measure => simp [intOf]; omega
            · have hje : J = l3 := by omega
              obtain ⟨al, cl, rfl, hrow⟩ := RowAt.ownedAny (zs := (W.take J).map (fun t => n * R * C + t.1)) GO.out (fun z hz => by
                obtain ⟨t, ht, rfl⟩ := List.mem_map.1 hz
                have := HWM.out t (List.mem_of_mem_take ht)
                exact WalkArith.wf_i64 (by omega)) (by omega)
              rw [hje, ← HW3.out.1, List.take_length, ← hix.out, HW3.out.1] at hrow
              have HR := Lib.hid hrow
              have HI4 := Lib.hid (HL.out _ _ _ HI3.out GN.out)
              have g4 := (HB.out _ _ HI4.out).2 4 (by omega)
              have g5 := (HB.out _ _ HI4.out).2 5 (by omega)
              simp at g4 g5
              have hz2 := z2.out n hlt
              have hmm := hMm.out n
              have hwl : ∀ x, al = some x → w.heap.size ≤ x.block := fun x hx => by
                have h1 := (GO.out.lt x.block (by rw [hx]; rfl)).1
                have h2 := (HB.out _ _ HI3.out).1
                omega
              have HS1 := HS.out n m al l3 cl wr hlt hlm HI4.out hrow hwl
              clear hwl
              obtain ⟨nm, hnm⟩ : ∃ nm, n * M = nm := ⟨_, rfl⟩
              have HNM := Lib.hid hnm
              rw [hnm] at hz2 hmm HS1
              clear hnm
              rw [Int.natCast_add] at HS1
              have HS2 := Lib.hid HS1
              have p1 : 0 ≤ (n : Int) * P := Int.mul_nonneg (by omega) (by omega)
              have p2 : (n : Int) * P ≤ 8192 * 20 := Int.mul_le_mul (by omega) (by omega) (by omega) (by omega)
              clear hrow HS1 hix GO HW3 HWM GN
              go_wp2_with fail
              refine HS2.out.mono ?_
              rintro e w5 ⟨rfl, hinv5⟩
              have HI5 := Lib.hid hinv5
              clear hinv5 HS2
              go_wp2
              go_roundw
              case rel => exact ⟨m + 1, by omega, by go_num, by rw [HNM.out, ← Nat.add_assoc]; exact HI5.out⟩
              case measure => simp [intOf]; omega
        · have hme : m = M := by omega
          have HI2 := Lib.hid (show Inv ((n + 1) * M) wo2 from by
            have := HI.out
            rw [hme] at this
            rw [Nat.succ_mul]
            exact this)
          clear HI hme
          go_wp2
          go_roundw
          case rel => exact ⟨n + 1, by omega, by go_num, HI2.out⟩
          case measure => simp [intOf]; omega
    · have hne : n = N := by omega
      rw [hne] at HI
      clear hne
      go_wp2
      go_end0
      exact ⟨rfl, HI.out⟩
/-- The same, where it need not be told where a window's row lies. -/
theorem each_any (F : Nat) (caps : Array Value) (Inv : Nat → World → Prop) (R C k s : Int) (P Q N : Nat) (w : World) (hP : outW R k s 0 = P) (hQ : outW C k s 0 = Q) (hP0 : 0 < P) (hQ0 : 0 < Q) (hN : N ≤ 8192) (hF : ∀ args w, (callFunc F args).run Try.prog w = .ok (.enter F args) w)
    (h0 : Inv 0 (w.alloc (.cells #[.int .i64 R, .int .i64 C, .int .i64 k, .int .i64 s, .int .i64 P, .int .i64 Q] 54)))
    (hbox : ∀ i wr, Inv i wr → w.heap.size < wr.heap.size ∧ ∀ j, j < 6 → wr.cell? ⟨w.heap.size, j, none⟩ = #[Value.int .i64 R, .int .i64 C, .int .i64 k, .int .i64 s, .int .i64 P, .int .i64 Q][j]?)
    (hbelow : ∀ i w1 w2, Inv i w1 → Below w1.heap.size w1 w2 → Inv i w2)
    (hstep : ∀ n i a l c wr, n < N → i < P * Q → Inv (n * (P * Q) + i) wr → RowAt .i64 wr a l (ix R C k s Q n i) → Calls Try.prog F (#[.int .i64 ((n * (P * Q) + i : Nat) : Int), .slice a l c] ++ caps) wr fun e w' => e = .returned (.tuple #[]) ∧ Inv (n * (P * Q) + i + 1) w') :
    Calls Try.prog 26 #[windows R C k s P Q, .int .i64 N, .func (.func F) #[] caps] w fun e w' => e = .returned (.tuple #[]) ∧ Inv (N * (P * Q)) w' :=
  each_own F caps Inv R C k s P Q N w hP hQ hP0 hQ0 hN hF h0 hbox hbelow (fun n i a l c wr hn hi hv hr _ => hstep n i a l c wr hn hi hv hr)
end Go.Proofs.Ytaijiihlkcbdhaa
