/-
  Tensors in the memory; may a tensor be.
-/
import Derived.Test.YtaijiihlkcbdhaaShapeWalk
import Derived.Deep.QuietTactic
import Derived.BigQuiet
namespace Go.Proofs.Ytaijiihlkcbdhaa
open Go.RowKit
set_option linter.unusedVariables false
/-- It returns a number that is at least 0 just if B; nothing turns. -/
def GivesIdx (B : Bool) (w : World) (e : Ending) (w' : World) : Prop := ∃ n : Int, e = .returned (.int .i64 n) ∧ decide (0 ≤ n) = B ∧ w = w'
set_option maxHeartbeats 400000 in
theorem index8_any (a : Option Addr) (len cap : Nat) (zs : List Int) (v : Int) (w : World) (h : RowAt .i8 w a len zs) :
    Calls Try.prog 49 #[.slice a len cap, .int .i8 v] w (GivesIdx (decide (v ∈ zs)) w) := by
  obtain ⟨B, hB⟩ : ∃ B, decide (v ∈ zs) = B := ⟨_, rfl⟩
  have HB := Lib.hid hB
  rw [hB]
  clear hB
  have H0 := Lib.hid h
  have hl := h.len_le
  have L0 := Lib.hid h.len_eq
  clear h
  go_enter Try.func49, Try.ntmps49
  go_wp2
  go_loop [8] (fun i => ∃ k : Nat, k ≤ len ∧ i = .int .i64 k ∧ (∀ j, j < k → zs.getD j 0 ≠ v)) (fun i => len - (intOf i).toNat)
  case atStart => exact ⟨0, Nat.zero_le _, rfl, fun j hj => by omega⟩
  case round =>
    obtain ⟨k, hk, rfl, hs⟩ := hrel
    have HS := Lib.hid hs
    clear hs
    by_cases hlt : k < len
    · obtain ⟨b0, o0, rfl, e0⟩ := H0.out.cells (by omega)
      have f0 := e0 k hlt
      clear e0
      have hm : zs.getD k 0 ∈ zs := by
        have : k < zs.length := by rw [L0.out]; exact hlt
        simp [List.getD, List.getElem?_eq_getElem this]
      have HMem := Lib.hid hm
      clear hm
      generalize hx : zs.getD k 0 = x at *
      have HX := Lib.hid hx
      clear hx
      by_cases c : v = x
      · subst c
        have c2 : (v == v) = true := by simp
        go_wp2
        go_ret
        exact ⟨_, rfl, by rw [← HB.out, decide_eq_true HMem.out]; exact decide_eq_true (by omega), rfl⟩
      · have c2 : (v == x) = false := by simpa using c
        have HC := Lib.hid c
        clear c
        go_wp2
        go_round
        case rel => exact ⟨k + 1, by omega, by go_num, fun j hj => by (by_cases c : j = k); (subst c; rw [HX.out]; exact fun e => HC.out e.symm); exact HS.out j (by omega)⟩
        case measure => simp [intOf]; omega
    · go_wp2
      go_ret
      exact ⟨_, rfl, by
        rw [← HB.out, decide_eq_false (p := v ∈ zs) (fun hm => by
          obtain ⟨j, hj, e⟩ := List.getElem_of_mem hm
          exact HS.out j (by have := L0.out; omega) (by simp [List.getD, List.getElem?_eq_getElem hj, e]))]
        rfl, rfl⟩
theorem contains8_any (a : Option Addr) (len cap : Nat) (zs : List Int) (v : Int) (w : World) (h : RowAt .i8 w a len zs) :
    Calls Try.prog 44 #[.slice a len cap, .int .i8 v] w fun e w' => e = .returned (.bool (decide (v ∈ zs))) ∧ w = w' := by
  have H := Lib.hid (fun w h => index8_any a len cap zs v w h)
  have H0 := Lib.hid h
  generalize decide (v ∈ zs) = B at *
  clear h
  go_enter Try.func44, Try.ntmps44
  go_wp2_with fail
  refine (H.out _ H0.out).mono ?_
  rintro e w' ⟨n, rfl, hn, rfl⟩
  have HN := Lib.hid hn
  clear hn
  go_wp2
  go_ret
  exact ⟨ret_bool HN.out, rfl⟩
theorem texp_any (e m : Int) (w : World) (hm : 0 ≤ m) (hm2 : m ≤ 1000) : Calls Try.prog 43 #[.int .i64 e, .int .i64 m] w fun r w' => r = .returned (.bool (decide (-m ≤ e ∧ e ≤ m))) ∧ w = w' := by
  by_cases h1 : -m ≤ e
  · by_cases h2 : e ≤ m
    · rw [decide_eq_true (And.intro h1 h2)]
      go_enter Try.func43, Try.ntmps43
      go_wp2
      go_ret
      exact ⟨rfl, rfl⟩
    · rw [decide_eq_false (fun h => h2 h.2)]
      have h3 : decide (e ≤ m) = false := decide_eq_false h2
      go_enter Try.func43, Try.ntmps43
      go_wp2
      go_ret
      exact ⟨rfl, rfl⟩
  · rw [decide_eq_false (fun h => h1 h.1)]
    have h3 : decide (-m ≤ e) = false := decide_eq_false h1
    go_enter Try.func43, Try.ntmps43
    go_wp2
    go_ret
    exact ⟨rfl, rfl⟩
/-- May a tensor be? -/
def T.may (d : List Int) (e : Int) (z : List Int) : Prop := 0 < Sh.size d ∧ (z.length : Int) = Sh.size d ∧ (-64 ≤ e ∧ e ≤ 64) ∧ ¬ (-128 : Int) ∈ z
instance (d : List Int) (e : Int) (z : List Int) : Decidable (T.may d e z) := by unfold T.may; infer_instance
def tensor (a : Option Addr) (l c : Nat) (e : Int) (b : Option Addr) (m k : Nat) : Value := .agg #[.slice a l c, .int .i64 e, .slice b m k]
theorem cells3 (w : World) (x y z : Value) (t : TypeId) (fr : Nat × Nat) : (w.alloc (.cells #[x, y, z] t fr)).cell? ⟨w.heap.size, 0, none⟩ = some x ∧ (w.alloc (.cells #[x, y, z] t fr)).cell? ⟨w.heap.size, 1, none⟩ = some y ∧ (w.alloc (.cells #[x, y, z] t fr)).cell? ⟨w.heap.size, 2, none⟩ = some z := by
  have h : ∀ j : Nat, j < 3 → (w.alloc (Obj.cells #[x, y, z] t fr)).cell? ⟨w.heap.size, j, none⟩ = #[x, y, z][j]? := fun j hj => by
    have := heap_alloc_new w (Obj.cells #[x, y, z] t fr)
    unfold World.cell?
    simp only [this]
    rfl
  exact ⟨h 0 (by omega), h 1 (by omega), h 2 (by omega)⟩
theorem size8_still (a : Option Addr) (len cap : Nat) (zs : List Int) (w : World) (h : RowAt .i64 w a len zs) : Calls Try.prog 33 #[.slice a len cap] w fun e w' => e = .returned (.int .i64 (Sh.size zs)) ∧ w' = w := (size_any a len cap zs w h).mono fun _ _ ⟨a, b⟩ => ⟨a, b.symm⟩
theorem may8_still (a : Option Addr) (len cap : Nat) (zs : List Int) (w : World) (h : RowAt .i64 w a len zs) : Calls Try.prog 35 #[.slice a len cap] w fun e w' => e = .returned (.bool (decide (0 < Sh.size zs))) ∧ w' = w := (may_any a len cap zs w h).mono fun _ _ ⟨a, b⟩ => ⟨a, b.symm⟩
theorem contains8_still (a : Option Addr) (len cap : Nat) (zs : List Int) (v : Int) (w : World) (h : RowAt .i8 w a len zs) : Calls Try.prog 44 #[.slice a len cap, .int .i8 v] w fun e w' => e = .returned (.bool (decide (v ∈ zs))) ∧ w' = w := (contains8_any a len cap zs v w h).mono fun _ _ ⟨a, b⟩ => ⟨a, b.symm⟩
theorem texp_still (e : Int) (w : World) : Calls Try.prog 43 #[.int .i64 e, .int .i64 64] w fun r w' => r = .returned (.bool (decide (-64 ≤ e ∧ e ≤ 64))) ∧ w' = w := (texp_any e 64 w (by omega) (by omega)).mono fun _ _ ⟨a, b⟩ => ⟨a, b.symm⟩
theorem RowAt.draws {k : IntKind} {w : World} {a : Option Addr} {len : Nat} {zs : List Int} (h : RowAt k w a len zs) (n : Nat) : RowAt k (w.drewN n) a len zs := h.below (below_drewN w n)
set_option maxHeartbeats 4000000 in
theorem tmay_any (a : Option Addr) (l c : Nat) (d : List Int) (e : Int) (b : Option Addr) (m k : Nat) (z : List Int) (w : World) (h0 : RowAt .i64 w a l d) (h1 : RowAt .i8 w b m z) :
    Calls Try.prog 24 #[tensor a l c e b m k] w (GivesV (.bool (decide (T.may d e z))) w) := by
  have hb := Lib.hid (below_alloc w (Obj.cells #[.slice a l c, .int .i64 e, .slice b m k] 25))
  obtain ⟨f0, f1, f2⟩ := cells3 w (.slice a l c) (.int .i64 e) (.slice b m k) 25 (0, 0)
  have H0 := Lib.hid (h0.below hb.out)
  have H1 := Lib.hid (h1.below hb.out)
  have hml := h1.len_le
  have hL := h1.len_eq
  have M := Lib.hid (fun n => may8_still a l c d _ (H0.out.draws n))
  have S := Lib.hid (fun n => size8_still a l c d _ (H0.out.draws n))
  have E := Lib.hid (fun w => texp_still e w)
  have C := Lib.hid (fun n => contains8_still b m k z (-128) _ (H1.out.draws n))
  have hdec : decide (T.may d e z) = (decide (0 < Sh.size d) && (((m : Int) == Sh.size d) && (decide (-64 ≤ e ∧ e ≤ 64) && !decide (-128 ∈ z)))) := by
    rw [Bool.eq_iff_iff]
    simp only [decide_eq_true_eq, Bool.and_eq_true, beq_iff_eq, Bool.not_eq_true', decide_eq_false_iff_not]
    unfold T.may
    rw [hL]
  rw [hdec]
  unfold tensor
  clear hL h0 h1 hdec
  generalize decide (0 < Sh.size d) = A at *
  generalize decide (-64 ≤ e ∧ e ≤ 64) = X at *
  generalize decide (-128 ∈ z) = Y at *
  obtain ⟨B, hB⟩ : ∃ B, ((m : Int) == Sh.size d) = B := ⟨_, rfl⟩
  rw [hB]
  generalize Sh.size d = sz at *
  clear H0 H1
  cases A
  · clear hB
    go_enter Try.func24, Try.ntmps24
    go_wp2
    generalize w.alloc (Obj.cells #[.slice a l c, .int .i64 e, .slice b m k] 25) = w1 at *
    go_quiet ((first
      | (go_at_call 35; exact Calls.quiet_of_same (M.out _))
      | (go_at_call 33; exact Calls.quiet_of_same (S.out _))
      | (go_at_call 43; exact Calls.quiet_of_same (E.out _))
      | (go_at_call 44; exact Calls.quiet_of_same (C.out _))))
    go_wp2
    go_ret
    exact ⟨rfl, hb.out.draws _⟩
  · cases B
    · go_enter Try.func24, Try.ntmps24
      go_wp2
      generalize w.alloc (Obj.cells #[.slice a l c, .int .i64 e, .slice b m k] 25) = w1 at *
      go_quiet ((first
        | (go_at_call 35; exact Calls.quiet_of_same (M.out _))
        | (go_at_call 33; exact Calls.quiet_of_same (S.out _))
        | (go_at_call 43; exact Calls.quiet_of_same (E.out _))
        | (go_at_call 44; exact Calls.quiet_of_same (C.out _))))
      go_wp2
      go_ret
      exact ⟨rfl, hb.out.draws _⟩
    · cases X
      · go_enter Try.func24, Try.ntmps24
        go_wp2
        generalize w.alloc (Obj.cells #[.slice a l c, .int .i64 e, .slice b m k] 25) = w1 at *
        go_quiet ((first
          | (go_at_call 35; exact Calls.quiet_of_same (M.out _))
          | (go_at_call 33; exact Calls.quiet_of_same (S.out _))
          | (go_at_call 43; exact Calls.quiet_of_same (E.out _))
          | (go_at_call 44; exact Calls.quiet_of_same (C.out _))))
        go_wp2
        go_ret
        exact ⟨rfl, hb.out.draws _⟩
      · cases Y
        · go_enter Try.func24, Try.ntmps24
          go_wp2
          generalize w.alloc (Obj.cells #[.slice a l c, .int .i64 e, .slice b m k] 25) = w1 at *
          go_quiet ((first
            | (go_at_call 35; exact Calls.quiet_of_same (M.out _))
            | (go_at_call 33; exact Calls.quiet_of_same (S.out _))
            | (go_at_call 43; exact Calls.quiet_of_same (E.out _))
            | (go_at_call 44; exact Calls.quiet_of_same (C.out _))))
          go_wp2
          go_ret
          exact ⟨rfl, hb.out.draws _⟩
        · go_enter Try.func24, Try.ntmps24
          go_wp2
          generalize w.alloc (Obj.cells #[.slice a l c, .int .i64 e, .slice b m k] 25) = w1 at *
          go_quiet ((first
            | (go_at_call 35; exact Calls.quiet_of_same (M.out _))
            | (go_at_call 33; exact Calls.quiet_of_same (S.out _))
            | (go_at_call 43; exact Calls.quiet_of_same (E.out _))
            | (go_at_call 44; exact Calls.quiet_of_same (C.out _))))
          go_wp2
          go_ret
          exact ⟨rfl, hb.out.draws _⟩
end Go.Proofs.Ytaijiihlkcbdhaa
