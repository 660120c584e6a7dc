/-
  The walks of the laws RoundChance, RoundNear, RoundRises, RoundWhole, RoundClamps, RoundAlign.
-/
import Derived.Test.YtfmoolnoalomeaaRoundWalk
namespace Go.Proofs.Ytfmoolnoalomeaa
open Go.RowKit
set_option linter.unusedVariables false

theorem below_drewN (w : World) (n : Nat) : Below w.heap.size w (w.drewN n) := ⟨rfl, rfl, rfl, Nat.le_refl _, fun _ _ => rfl⟩
theorem awake2_any (w : World) : Calls Try.prog 19 #[] w (Gives (.bool true) w) := by
  have a1 : Rd.near 5 1 = 3 := by decide
  have a2 : Rd.down (-5) 1 = -3 := by decide
  have a3 : Rd.chance 5 2 3 = 2 := by decide
  have H1 := Lib.hid (fun w => a1 ▸ near_any 5 1 w)
  have H2 := Lib.hid (fun w => a2 ▸ down_any (-5) 1 w)
  have H3 := Lib.hid (fun w => a3 ▸ chance_any 5 2 3 (by decide) w)
  clear a1 a2 a3
  go_enter Try.func19, Try.ntmps19
  go_wp2_with (first
    | (go_at_call 20; refine (H1.out _).mono ?_; rintro e w1 ⟨rfl, n1, rfl⟩)
    | (go_at_call 17; refine (H2.out _).mono ?_; rintro e w2 ⟨rfl, rfl⟩)
    | (go_at_call 18; refine (H3.out _).mono ?_; rintro e w3 ⟨rfl, n3, rfl⟩))
  go_ret
  exact ⟨rfl, n1 + n3, rfl⟩

/-! ### RoundNear -/
namespace Rd
theorem val_of {V : Int} (h1 : -1152921504606846976 < V) (h2 : V < 1152921504606846976) : val V = V := by unfold val btw; omega
theorem shf_of {S : Nat} (h : S ≤ 62) : shf (S : Int) = S := by unfold shf btw; omega
theorem near_spec (V : Int) (S : Nat) (hS : (S : Int) < 50) (h1 : -1152921504606846976 < V) (h2 : V < 1152921504606846976) :
    ∃ D L N P X : Int, down V S = D ∧ near V S = N ∧ (2 : Int) ^ S = P ∧ D * P = X ∧ V = X + L ∧ 0 ≤ L ∧ L < P ∧ 1 ≤ P ∧ P ≤ 562949953421312 ∧ -2305843009213693952 ≤ X ∧ X ≤ 2305843009213693952 ∧ -2305843009213693952 ≤ D ∧ D ≤ 2305843009213693952 ∧
      ((N = D ∧ 2 * L ≤ P) ∨ (N = D + 1 ∧ P ≤ 2 * L)) := by
  have p := pow_le (show S ≤ 49 by omega)
  have q := pow_pos S
  have e : (2 : Int) ^ 49 = 562949953421312 := by decide
  rw [e] at p
  unfold down near
  rw [val_of h1 h2, shf_of (by omega)]
  have d0 := Int.mul_ediv_add_emod V (2 ^ S)
  have d1 := Int.emod_nonneg V (show (2 : Int) ^ S ≠ 0 by omega)
  have d2 := Int.emod_lt_of_pos V q
  have a0 : V / 2 ^ S ≤ 1152921504606846976 := by
    apply Int.ediv_le_of_le_mul q
    have := Int.mul_le_mul_of_nonneg_left (show (1 : Int) ≤ 2 ^ S by omega) (show (0 : Int) ≤ 1152921504606846976 by omega)
    omega
  have a1 : -1152921504606846976 ≤ V / 2 ^ S := by
    apply Int.le_ediv_of_mul_le q
    have := Int.mul_le_mul_of_nonneg_left (show (1 : Int) ≤ 2 ^ S by omega) (show (0 : Int) ≤ 1152921504606846976 by omega)
    rw [Int.neg_mul]
    omega
  rw [Int.mul_comm] at d0
  refine ⟨V / 2 ^ S, V % 2 ^ S, _, 2 ^ S, V / 2 ^ S * 2 ^ S, rfl, rfl, rfl, rfl, by omega, d1, d2, by omega, p, by omega, by omega, by omega, by omega, ?_⟩
  by_cases h0 : S = 0
  · subst h0
    rw [if_pos rfl]
    left
    simp
  · rw [if_neg h0]
    obtain ⟨T, rfl⟩ : ∃ T, S = T + 1 := ⟨S - 1, by omega⟩
    have eP : (2 : Int) ^ (T + 1) = 2 * 2 ^ T := by rw [Int.pow_succ, Int.mul_comm]
    rw [show T + 1 - 1 = T by omega]
    generalize hD : V / 2 ^ (T + 1) = D at *
    generalize hL : V % 2 ^ (T + 1) = L at *
    have hV : V + 2 ^ T = (L + 2 ^ T) + D * 2 ^ (T + 1) := by omega
    rw [hV, Int.add_mul_ediv_right _ _ (show (2 : Int) ^ (T + 1) ≠ 0 by omega)]
    by_cases hh : L + 2 ^ T < 2 ^ (T + 1)
    · left
      rw [Int.ediv_eq_zero_of_lt (by have := pow_pos T; omega) hh]
      constructor
      · omega
      · omega
    · right
      have : (L + 2 ^ T) / 2 ^ (T + 1) = 1 := by
        have hb : L + 2 ^ T = (L - 2 ^ T) + 1 * 2 ^ (T + 1) := by omega
        rw [hb, Int.add_mul_ediv_right _ _ (show (2 : Int) ^ (T + 1) ≠ 0 by omega), Int.ediv_eq_zero_of_lt (by omega) (by have := pow_pos T; omega)]
        rfl
      rw [this]
      constructor
      · omega
      · omega
end Rd

theorem roundNear_any (a0 a1 : Int) (w : World) (w0 : (Lit.int .i64 a0).wf = true) (w1 : (Lit.int .i64 a1).wf = true) :
    Calls Try.prog 7 #[.int .i64 a0, .int .i64 a1] w fun e w' => e = .returned (.bool true) ∧ Below w.heap.size w w' := by
  obtain ⟨S, hS, eS⟩ := umod_const a1 50 (by decide)
  obtain ⟨V, v1, v2, eV⟩ := tmod_const a0 1152921504606846976 (by decide)
  obtain ⟨D, L, N, P, X, hD, hN, hP, hX, hV, l0, l1, p0, p1, x0, x1, d0, d1, hc⟩ := Rd.near_spec V S hS v1 v2
  have HD := Lib.hid (fun w => hD ▸ down_any V S w)
  have HN := Lib.hid (fun w => hN ▸ near_any V S w)
  have HV := Lib.hid hV
  have k0 : X ≤ V := by omega
  have k1 : V - X < P := by omega
  have hX2 : (D + 1) * P = X + P := by rw [Int.add_mul, hX, Int.one_mul]
  clear hD hN hV w0 w1
  have hc2 : (N = D ∧ 2 * (V - X) ≤ P) ∨ (N = D + 1 ∧ 2 * (X + P - V) ≤ P) := by
    rcases hc with ⟨h, c⟩ | ⟨h, c⟩
    · exact Or.inl ⟨h, by have := HV.out; omega⟩
    · exact Or.inr ⟨h, by have := HV.out; omega⟩
  clear hc
  rcases hc2 with ⟨rfl, c1⟩ | ⟨rfl, c1⟩
  all_goals
    go_enter Try.func7, Try.ntmps7
    go_wp2_with (first
      | (go_at_call 20; refine (HN.out _).mono ?_; rintro e w1 ⟨rfl, n1, rfl⟩)
      | (go_at_call 17; refine (HD.out _).mono ?_; rintro e w2 ⟨rfl, rfl⟩)
      | (go_at_call 19; refine (awake2_any _).mono ?_; rintro e w3 ⟨rfl, n3, rfl⟩))
    all_goals (go_ret; exact ⟨rfl, below_drewN _ _⟩)

/-! ### RoundRises -/
namespace Rd
theorem val_mono {v w : Int} (h : v ≤ w) : val v ≤ val w := by unfold val btw; omega
theorem down_mono {v w : Int} (s : Int) (h : v ≤ w) : down v s ≤ down w s := by
  unfold down; exact Int.ediv_le_ediv (pow_pos _) (val_mono h)
theorem near_mono {v w : Int} (s : Int) (h : v ≤ w) : near v s ≤ near w s := by
  unfold near
  split
  · exact val_mono h
  · exact Int.ediv_le_ediv (pow_pos _) (by have := val_mono h; omega)
theorem chance_mono {v w : Int} (s r : Int) (h : v ≤ w) : chance v s r ≤ chance w s r := by
  unfold chance; exact Int.ediv_le_ediv (pow_pos _) (by have := val_mono h; omega)
theorem div_within {V p : Int} (hp : 1 ≤ p) (h1 : -4611686018427387904 ≤ V) (h2 : V ≤ 4611686018427387904) : -4611686018427387904 ≤ V / p ∧ V / p ≤ 4611686018427387904 := by
  constructor
  · apply Int.le_ediv_of_mul_le (by omega)
    have := Int.mul_le_mul_of_nonneg_left hp (show (0 : Int) ≤ 4611686018427387904 by omega)
    rw [Int.neg_mul]
    omega
  · apply Int.ediv_le_of_le_mul (by omega)
    have := Int.mul_le_mul_of_nonneg_left hp (show (0 : Int) ≤ 4611686018427387904 by omega)
    omega
theorem down_within (v s : Int) : -4611686018427387904 ≤ down v s ∧ down v s ≤ 4611686018427387904 :=
  div_within (by have := pow_pos (shf s); omega) (val_lo v) (val_hi v)
theorem val_down (v s : Int) : val (down v s) = down v s := by
  have := down_within v s
  generalize down v s = d at *
  unfold val btw; omega
theorem down_down (v : Int) (S T : Nat) (hT : T ≤ 62) (h : S ≤ T) : down (down v (S : Int)) ((T : Int) - (S : Int)) = down v (T : Int) := by
  unfold down
  rw [show val (val v / 2 ^ shf (S : Int)) = val v / 2 ^ shf (S : Int) from val_down v S]
  rw [shf_of (by omega), shf_of hT, show ((T : Int) - (S : Int)) = ((T - S : Nat) : Int) by omega, shf_of (by omega)]
  rw [Int.ediv_ediv_of_nonneg (Int.le_of_lt (pow_pos S)), ← Int.pow_add, Nat.add_sub_cancel' h]
end Rd
theorem rises_tests (v w : Int) (S T : Nat) (r : Int) (hT : (T : Int) < 60) (h : S ≤ T) (hv : v ≤ w) :
    Rd.down v (S : Int) ≤ Rd.down w (S : Int) ∧ Rd.near v (S : Int) ≤ Rd.near w (S : Int) ∧ Rd.chance v (S : Int) r ≤ Rd.chance w (S : Int) r ∧ (Rd.down (Rd.down v (S : Int)) ((T : Int) - (S : Int)) == Rd.down v (T : Int)) = true :=
  ⟨Rd.down_mono _ hv, Rd.near_mono _ hv, Rd.chance_mono _ _ hv, by rw [Rd.down_down v S T (by omega) h]; exact beq_self_eq_true _⟩

theorem roundRises_any (a0 a1 a2 a3 a4 : Int) (w : World) (w0 : (Lit.int .i64 a0).wf = true) (w1 : (Lit.int .i64 a1).wf = true) (w2 : (Lit.int .i64 a2).wf = true) (w3 : (Lit.int .i64 a3).wf = true) (w4 : (Lit.int .u64 a4).wf = true) :
    Calls Try.prog 8 #[.int .i64 a0, .int .i64 a1, .int .i64 a2, .int .i64 a3, .int .u64 a4] w fun e w' => e = .returned (.bool true) ∧ Below w.heap.size w w' := by
  obtain ⟨S, hS, eS⟩ := umod_const a2 60 (by decide)
  obtain ⟨T, hT, eT⟩ := umod_const a3 60 (by decide)
  have W4 := Lib.hid w4
  clear w0 w1 w2 w3 w4
  have go : ∀ (v u : Int) (s t : Nat), ((a0 ≤ a1 ∧ v = a0 ∧ u = a1) ∨ (a1 < a0 ∧ v = a1 ∧ u = a0)) → ((S ≤ T ∧ s = S ∧ t = T) ∨ (T < S ∧ s = T ∧ t = S)) →
      Calls Try.prog 8 #[.int .i64 a0, .int .i64 a1, .int .i64 a2, .int .i64 a3, .int .u64 a4] w fun e w' => e = .returned (.bool true) ∧ Below w.heap.size w w' := by
    intro v u s t hv hs
    have ht := rises_tests v u s t a4 (by omega) (by omega) (by omega)
    rcases hv with ⟨c1, rfl, rfl⟩ | ⟨c1, rfl, rfl⟩ <;> rcases hs with ⟨c2, rfl, rfl⟩ | ⟨c2, rfl, rfl⟩
    all_goals
      obtain ⟨t1, t2, t3, t4⟩ := ht
      go_enter Try.func8, Try.ntmps8
      go_wp2_with (first
        | (go_at_call 20; refine (near_any _ _ _).mono ?_; rintro e w1 ⟨rfl, n1, rfl⟩)
        | (go_at_call 17; refine (down_any _ _ _).mono ?_; rintro e w2 ⟨rfl, rfl⟩)
        | (go_at_call 18; refine (chance_any _ _ _ W4.out _).mono ?_; rintro e w3 ⟨rfl, n3, rfl⟩)
        | (go_at_call 19; refine (awake2_any _).mono ?_; rintro e w3 ⟨rfl, n3, rfl⟩))
      go_ret
      exact ⟨rfl, below_drewN _ _⟩
  have cs : (a0 ≤ a1 ∧ S ≤ T) ∨ (a0 ≤ a1 ∧ T < S) ∨ (a1 < a0 ∧ S ≤ T) ∨ (a1 < a0 ∧ T < S) := by omega
  rcases cs with ⟨c1, c2⟩ | ⟨c1, c2⟩ | ⟨c1, c2⟩ | ⟨c1, c2⟩
  · exact go a0 a1 S T (Or.inl ⟨c1, rfl, rfl⟩) (Or.inl ⟨c2, rfl, rfl⟩)
  · exact go a0 a1 T S (Or.inl ⟨c1, rfl, rfl⟩) (Or.inr ⟨c2, rfl, rfl⟩)
  · exact go a1 a0 S T (Or.inr ⟨c1, rfl, rfl⟩) (Or.inl ⟨c2, rfl, rfl⟩)
  · exact go a1 a0 T S (Or.inr ⟨c1, rfl, rfl⟩) (Or.inr ⟨c2, rfl, rfl⟩)

/-! ### RoundWhole -/
namespace Rd
theorem whole_spec (V : Int) (S : Nat) (r : Int) (hS : (S : Int) < 20) (h1 : -1099511627776 < V) (h2 : V < 1099511627776) :
    ∃ X P : Int, (2 : Int) ^ S = P ∧ V * P = X ∧ -1152921504606846976 < X ∧ X < 1152921504606846976 ∧ 1 ≤ P ∧ P ≤ 524288 ∧ down X S = V ∧ near X S = V ∧ chance X S r = V ∧ chance V 0 r = V ∧ near V 0 = V := by
  have p := pow_le (show S ≤ 19 by omega)
  have q := pow_pos S
  have e : (2 : Int) ^ 19 = 524288 := by decide
  rw [e] at p
  have b := mul_bound (X := V) (M := 1099511627775) (by omega) (by omega) q p (by decide)
  have hX : val (V * 2 ^ S) = V * 2 ^ S := val_of (by omega) (by omega)
  have d : V * 2 ^ S / 2 ^ S = V := Int.mul_ediv_cancel _ (by omega)
  refine ⟨V * 2 ^ S, 2 ^ S, rfl, rfl, by omega, by omega, by omega, p, ?_, ?_, ?_, ?_, ?_⟩
  · unfold down; rw [hX, shf_of (by omega), d]
  · unfold near; rw [hX, shf_of (by omega)]
    split
    · rename_i h0; subst h0; simp
    · obtain ⟨T, rfl⟩ : ∃ T, S = T + 1 := ⟨S - 1, by omega⟩
      have eP : (2 : Int) ^ (T + 1) = 2 * 2 ^ T := by rw [Int.pow_succ, Int.mul_comm]
      rw [show T + 1 - 1 = T by omega, Int.add_comm, Int.add_mul_ediv_right _ _ (show (2 : Int) ^ (T + 1) ≠ 0 by omega), Int.ediv_eq_zero_of_lt (by have := pow_pos T; omega) (by have := pow_pos T; omega), Int.zero_add]
  · unfold chance; rw [hX, shf_of (by omega)]
    have m0 := Int.emod_nonneg r (show (2 : Int) ^ S ≠ 0 by omega)
    have m1 := Int.emod_lt_of_pos r q
    rw [Int.add_comm, Int.add_mul_ediv_right _ _ (show (2 : Int) ^ S ≠ 0 by omega), Int.ediv_eq_zero_of_lt m0 m1, Int.zero_add]
  · unfold chance; rw [val_of (by omega) (by omega), show shf 0 = 0 by decide]
    simp
  · unfold near; rw [val_of (by omega) (by omega), show shf 0 = 0 by decide, if_pos rfl]
end Rd
theorem roundWhole_any (a0 a1 a2 : Int) (w : World) (w0 : (Lit.int .i64 a0).wf = true) (w1 : (Lit.int .i64 a1).wf = true) (w2 : (Lit.int .u64 a2).wf = true) :
    Calls Try.prog 9 #[.int .i64 a0, .int .i64 a1, .int .u64 a2] w fun e w' => e = .returned (.bool true) ∧ Below w.heap.size w w' := by
  obtain ⟨S, hS, eS⟩ := umod_const a1 20 (by decide)
  obtain ⟨V, v1, v2, eV⟩ := tmod_const a0 1099511627776 (by decide)
  obtain ⟨X, P, hP, hX, x0, x1, p0, p1, t1, t2, t3, t4, t5⟩ := Rd.whole_spec V S a2 hS v1 v2
  have W2 := Lib.hid w2
  clear w0 w1 w2
  have H1 := Lib.hid (fun w => t1 ▸ down_any X S w)
  have H2 := Lib.hid (fun w => t2 ▸ near_any X S w)
  have H3 := Lib.hid (fun w => t3 ▸ chance_any X S a2 W2.out w)
  have H4 := Lib.hid (fun w => t4 ▸ chance_any V 0 a2 W2.out w)
  have H5 := Lib.hid (fun w => t5 ▸ near_any V 0 w)
  clear t1 t2 t3 t4 t5
  go_enter Try.func9, Try.ntmps9
  go_wp2_with fail
  refine (H1.out _).mono ?_
  rintro e w' ⟨rfl, rfl⟩
  go_wp2_with fail
  refine (H2.out _).mono ?_
  rintro e w' ⟨rfl, n1, rfl⟩
  go_wp2_with fail
  refine (H3.out _).mono ?_
  rintro e w' ⟨rfl, n2, rfl⟩
  go_wp2_with fail
  refine (H4.out _).mono ?_
  rintro e w' ⟨rfl, n3, rfl⟩
  go_wp2_with fail
  refine (H5.out _).mono ?_
  rintro e w' ⟨rfl, n4, rfl⟩
  go_wp2_with (go_at_call 19; refine (awake2_any _).mono ?_; rintro e w3 ⟨rfl, n5, rfl⟩)
  go_ret
  exact ⟨rfl, below_drewN _ _⟩

/-! ### RoundAlign -/
namespace Rd
theorem btw_of {n : Int} (h1 : -1000 ≤ n) (h2 : n ≤ 1000) : btw n (-1000) 1000 = n := by unfold btw; omega
theorem align_spec (V F : Int) (D : Nat) (hD : (D : Int) < 10) (h1 : -1024 < V) (h2 : V < 1024) (f1 : -500 < F) (f2 : F < 500) :
    ∃ X P : Int, (2 : Int) ^ D = P ∧ V * P = X ∧ -1048576 ≤ X ∧ X ≤ 1048576 ∧ align V F (F - D) = X ∧ align X (F - D) F = V ∧ align 0 F D = 0 ∧ align V F F = V := by
  have p := pow_le (show D ≤ 9 by omega)
  have q := pow_pos D
  have e : (2 : Int) ^ 9 = 512 := by decide
  rw [e] at p
  have b := mul_bound (X := V) (M := 1023) (by omega) (by omega) q p (by decide)
  refine ⟨V * 2 ^ D, 2 ^ D, rfl, rfl, by omega, by omega, ?_, ?_, ?_, ?_⟩
  · unfold align alignBy
    rw [btw_of (by omega) (by omega), btw_of (by omega) (by omega), if_neg (by omega), if_neg (by omega), show (F - (F - (D : Int))).toNat = D by omega, val_of (by omega) (by omega), show btw V (-1048576) 1048576 = V by unfold btw; omega]
    unfold btw; omega
  · unfold align alignBy
    rw [btw_of (by omega) (by omega), btw_of (by omega) (by omega), val_of (by omega) (by omega)]
    by_cases h0 : D = 0
    · subst h0
      rw [if_neg (by omega), if_neg (by omega)]
      simp
      unfold btw; omega
    · rw [if_pos (by omega), show (min (-(F - (D : Int) - F)) 62).toNat = D by omega]
      exact Int.mul_ediv_cancel _ (by omega)
  · unfold align alignBy
    rw [show val 0 = 0 by decide]
    split
    · simp
    · split
      · simp
      · rw [show btw 0 (-1048576) 1048576 = 0 by decide, Int.zero_mul]; decide
  · unfold align alignBy
    rw [btw_of (by omega) (by omega), if_neg (by omega), if_neg (by omega), val_of (by omega) (by omega), Int.sub_self]
    simp
    unfold btw; omega
end Rd
theorem roundAlign_any (a0 a1 a2 : Int) (w : World) (w0 : (Lit.int .i64 a0).wf = true) (w1 : (Lit.int .i64 a1).wf = true) (w2 : (Lit.int .i64 a2).wf = true) :
    Calls Try.prog 11 #[.int .i64 a0, .int .i64 a1, .int .i64 a2] w fun e w' => e = .returned (.bool true) ∧ Below w.heap.size w w' := by
  obtain ⟨D, hD, eD⟩ := umod_const a2 10 (by decide)
  obtain ⟨V, v1, v2, eV⟩ := tmod_const a0 1024 (by decide)
  obtain ⟨F, f1, f2, eF⟩ := tmod_const a1 500 (by decide)
  obtain ⟨X, P, hP, hX, x0, x1, t1, t2, t3, t4⟩ := Rd.align_spec V F D hD v1 v2 f1 f2
  clear w0 w1 w2
  have H1 := Lib.hid (fun w => t1 ▸ align_any V F (F - D) w)
  have H2 := Lib.hid (fun w => t2 ▸ align_any X (F - D) F w)
  have H3 := Lib.hid (fun w => t3 ▸ align_any 0 F D w)
  have H4 := Lib.hid (fun w => t4 ▸ align_any V F F w)
  clear t1 t2 t3 t4
  go_enter Try.func11, Try.ntmps11
  go_wp2_with fail
  refine (H1.out _).mono ?_
  rintro e w' ⟨rfl, rfl⟩
  go_wp2_with fail
  refine (H2.out _).mono ?_
  rintro e w' ⟨rfl, rfl⟩
  go_wp2_with fail
  refine (H3.out _).mono ?_
  rintro e w' ⟨rfl, rfl⟩
  go_wp2_with fail
  refine (H4.out _).mono ?_
  rintro e w' ⟨rfl, rfl⟩
  go_wp2_with (go_at_call 19; refine (awake2_any _).mono ?_; rintro e w3 ⟨rfl, n5, rfl⟩)
  go_ret
  exact ⟨rfl, below_drewN _ _⟩

/-! ### RoundClamps -/
namespace Rd
theorem wid_of {S : Nat} (h : S ≤ 31) : wid ((S : Int) + 1) = S := by unfold wid btw; omega
theorem wid_of' {S : Nat} (h : S ≤ 31) : wid (1 + (S : Int)) = S := by rw [Int.add_comm]; exact wid_of h
theorem btw_btw {n a b : Int} (hb : 0 ≤ b) (h : b ≤ a) : btw (btw n (-a) a) (-b) b = btw n (-b) b := by unfold btw; omega
theorem clamp_eq (v W : Int) : clamp v W = btw v (-(2 ^ wid W - 1)) (2 ^ wid W - 1) := by
  have p := pow_le (wid_le W)
  have q := pow_pos (wid W)
  have e : (2 : Int) ^ 31 = 2147483648 := by decide
  rw [e] at p
  unfold clamp val
  generalize (2 : Int) ^ wid W = P at *
  unfold btw; omega
theorem clamps_spec (v : Int) (S T : Nat) (hS : (S : Int) < 32) (hT : (T : Int) < 32) :
    ∃ c P : Int, clamp v (1 + S) = c ∧ (2 : Int) ^ S = P ∧ 1 ≤ P ∧ P ≤ 2147483648 ∧ -(P - 1) ≤ c ∧ c ≤ P - 1 ∧ (v < -(P - 1) ∨ P - 1 < v ∨ c = v) ∧ clamp c (1 + S) = c ∧ clamp (-c) (1 + S) = -c ∧
      (S ≤ T → clamp (clamp v (1 + T)) (1 + S) = c) ∧ (T < S → clamp c (1 + T) = clamp v (1 + T)) := by
  have p := pow_le (show S ≤ 31 by omega)
  have q := pow_pos S
  have q' := pow_pos T
  have e : (2 : Int) ^ 31 = 2147483648 := by decide
  rw [e] at p
  have m1 : S ≤ T → (2 : Int) ^ S ≤ 2 ^ T := fun h => pow_le h
  have m2 : T ≤ S → (2 : Int) ^ T ≤ 2 ^ S := fun h => pow_le h
  refine ⟨clamp v (1 + S), 2 ^ S, rfl, rfl, by omega, p, ?_⟩
  simp only [clamp_eq, wid_of' (show S ≤ 31 by omega), wid_of' (show T ≤ 31 by omega)]
  generalize (2 : Int) ^ S = P at *
  generalize (2 : Int) ^ T = R at *
  refine ⟨?_, ?_, ?_, ?_, ?_, ?_, ?_⟩
  · unfold btw; omega
  · unfold btw; omega
  · unfold btw; omega
  · unfold btw; omega
  · unfold btw; omega
  · intro h; have := m1 h; unfold btw; omega
  · intro h; have := m2 (by omega); unfold btw; omega
end Rd
set_option maxHeartbeats 1000000 in
theorem roundClamps_any (a0 a1 a2 : Int) (w : World) (w0 : (Lit.int .i64 a0).wf = true) (w1 : (Lit.int .i64 a1).wf = true) (w2 : (Lit.int .i64 a2).wf = true) :
    Calls Try.prog 10 #[.int .i64 a0, .int .i64 a1, .int .i64 a2] w fun e w' => e = .returned (.bool true) ∧ Below w.heap.size w w' := by
  obtain ⟨S, hS, eS⟩ := umod_const a1 32 (by decide)
  obtain ⟨T, hT, eT⟩ := umod_const a2 32 (by decide)
  obtain ⟨c, P, t0, hP, p0, p1, c0, c1, hv, t1, t2, t3, t4⟩ := Rd.clamps_spec a0 S T hS hT
  clear w0 w1 w2
  have H0 := Lib.hid (fun w => t0 ▸ clamp_any a0 (1 + S) w)
  have H1 := Lib.hid (fun w => t1 ▸ clamp_any c (1 + S) w)
  have H2 := Lib.hid (fun w => t2 ▸ clamp_any (-c) (1 + S) w)
  have T0 := Lib.hid t0
  clear t0 t1 t2
  have hw : wrap64 P = P := IntWalk.wrap64_in _ ⟨by omega, by omega⟩
  have cs : S < T ∨ S = T ∨ T < S := by omega
  rcases cs with h | rfl | h
  · have H3 := Lib.hid (fun w => t3 (Nat.le_of_lt h) ▸ clamp_any (Rd.clamp a0 (1 + T)) (1 + S) w)
    clear t3 t4
    rcases hv with hv | hv | rfl
    all_goals
      go_enter Try.func10, Try.ntmps10
      go_wp2_with fail
      refine (H0.out _).mono ?_
      rintro e w' ⟨rfl, rfl⟩
      go_wp2_with fail
      refine (H1.out _).mono ?_
      rintro e w' ⟨rfl, rfl⟩
      go_wp2_with fail
      refine (clamp_any _ _ _).mono ?_
      rintro e w' ⟨rfl, rfl⟩
      go_wp2_with fail
      refine (H3.out _).mono ?_
      rintro e w' ⟨rfl, rfl⟩
      go_wp2_with fail
      refine (H0.out _).mono ?_
      rintro e w' ⟨rfl, rfl⟩
      go_wp2_with fail
      refine (H2.out _).mono ?_
      rintro e w' ⟨rfl, rfl⟩
      go_wp2_with (go_at_call 19; refine (awake2_any _).mono ?_; rintro e w3 ⟨rfl, n5, rfl⟩)
      go_ret
      exact ⟨rfl, below_drewN _ _⟩
  · clear t3 t4
    rcases hv with hv | hv | rfl
    all_goals
      go_enter Try.func10, Try.ntmps10
      go_wp2_with fail
      refine (H0.out _).mono ?_
      rintro e w' ⟨rfl, rfl⟩
      go_wp2_with fail
      refine (H1.out _).mono ?_
      rintro e w' ⟨rfl, rfl⟩
      go_wp2_with fail
      refine (H0.out _).mono ?_
      rintro e w' ⟨rfl, rfl⟩
      go_wp2_with fail
      refine (H1.out _).mono ?_
      rintro e w' ⟨rfl, rfl⟩
      go_wp2_with fail
      refine (H0.out _).mono ?_
      rintro e w' ⟨rfl, rfl⟩
      go_wp2_with fail
      refine (H2.out _).mono ?_
      rintro e w' ⟨rfl, rfl⟩
      go_wp2_with (go_at_call 19; refine (awake2_any _).mono ?_; rintro e w3 ⟨rfl, n5, rfl⟩)
      go_ret
      exact ⟨rfl, below_drewN _ _⟩
  · have H3 := Lib.hid (fun w => t4 h ▸ clamp_any c (1 + T) w)
    clear t3 t4
    rcases hv with hv | hv | rfl
    all_goals
      go_enter Try.func10, Try.ntmps10
      go_wp2_with fail
      refine (H0.out _).mono ?_
      rintro e w' ⟨rfl, rfl⟩
      go_wp2_with fail
      refine (H1.out _).mono ?_
      rintro e w' ⟨rfl, rfl⟩
      go_wp2_with fail
      refine (H0.out _).mono ?_
      rintro e w' ⟨rfl, rfl⟩
      go_wp2_with fail
      refine (H3.out _).mono ?_
      rintro e w' ⟨rfl, rfl⟩
      go_wp2_with fail
      refine (clamp_any _ _ _).mono ?_
      rintro e w' ⟨rfl, rfl⟩
      go_wp2_with fail
      refine (H2.out _).mono ?_
      rintro e w' ⟨rfl, rfl⟩
      go_wp2_with (go_at_call 19; refine (awake2_any _).mono ?_; rintro e w3 ⟨rfl, n5, rfl⟩)
      go_ret
      exact ⟨rfl, below_drewN _ _⟩
end Go.Proofs.Ytfmoolnoalomeaa
