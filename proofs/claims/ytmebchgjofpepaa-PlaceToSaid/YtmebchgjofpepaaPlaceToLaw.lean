/-
  What the layer asks of itself, and the law PlaceTo.
-/
import Derived.Test.YtmebchgjofpepaaPlaceWindow
import Derived.Deep.Cut
namespace Go.Proofs.Ytmebchgjofpepaa
open Go.RowKit Fl
set_option linter.unusedVariables false
theorem awake9_any (w : World) : Calls Try.prog 14 #[] w (GivesV (.bool true) w) := by
  have a1 : winW 3 3 0 0 2 1 1 = [(0, 1, 1)] := by decide
  have H1 := Lib.hid (fun w => a1 ▸ window_any 3 3 0 0 2 1 1 w)
  clear a1
  go_enter Try.func14, Try.ntmps14
  go_wp2_with fail
  refine (H1.out _).mono ?_
  rintro e w2 ⟨a, n, c, rfl, ⟨hl, hw⟩, hb⟩
  simp at hl
  subst hl
  obtain ⟨g, rfl, hg, hc⟩ := hw.resolve_left (by omega)
  obtain ⟨f0, f1, f2⟩ := hc 0 (by omega)
  simp at f0 f1 f2
  have HB := Lib.hid hb
  clear hb hc hw
  go_wp2
  go_ret
  exact ⟨rfl, HB.out⟩

theorem toOf_any (r c : Int) (w : World) : Calls Try.prog 15 #[.complex .f64 (ofRe r c) (ofIm r c)] w fun e w' => e = .returned (.tuple #[.int .i64 (if ofOk r c then r else 0), .int .i64 (if ofOk r c then c else 0), .bool true]) ∧ w = w' := by
  unfold ofRe ofIm
  by_cases h : ofOk r c
  · rw [if_pos h, if_pos h, if_pos h, if_pos h]
    obtain ⟨h1, h2, h3, h4⟩ := h
    exact to_small _ _ r c w (FI.ofInt r (by omega)) (FI.ofInt c (by omega)) h1 h2 h3 h4
  · rw [if_neg h, if_neg h, if_neg h, if_neg h]
    exact to_small _ _ 0 0 w FI.zero FI.zero (by omega) (by omega) (by omega) (by omega)
theorem corner_any (r c s p : Int) (w : World) : Calls Try.prog 17 #[.int .i64 r, .int .i64 c, .int .i64 s, .int .i64 p] w (GivesC (if cornerOk r c s p then r * s - p else 0) (if cornerOk r c s p then c * s - p else 0) w) := by
  by_cases h : cornerOk r c s p
  · rw [if_pos h, if_pos h]; exact corner_yes r c s p w h
  · rw [if_neg h, if_neg h]; exact corner_no r c s p w h
theorem corner_lt (r c s p : Int) : -1000 ≤ (if cornerOk r c s p then r * s - p else 0) ∧ (if cornerOk r c s p then r * s - p else 0) ≤ 1000 := by
  split
  · rename_i h
    obtain ⟨h1, h2, h3, h4, h5, h6, h7, h8⟩ := h
    have := Int.mul_nonneg h1 (show 0 ≤ s by omega)
    have := Int.mul_le_mul h2 h6 (by omega) (show (0 : Int) ≤ 16 by omega)
    omega
  · omega
theorem corner_lt2 (r c s p : Int) : -1000 ≤ (if cornerOk r c s p then c * s - p else 0) ∧ (if cornerOk r c s p then c * s - p else 0) ≤ 1000 := by
  split
  · rename_i h
    obtain ⟨h1, h2, h3, h4, h5, h6, h7, h8⟩ := h
    have := Int.mul_nonneg h3 (show 0 ≤ s by omega)
    have := Int.mul_le_mul h4 h6 (by omega) (show (0 : Int) ≤ 16 by omega)
    omega
  · omega

theorem run_ge {P : Program} (b : Nat) : ∀ t w, (binOp .geq t (.float .f64 b) (.float .f64 13875379345695965184)).run P w = .ok (.bool (ge b)) w := fun t w => by rw [binOp_float_cmp_geq]; rfl
theorem run_le {P : Program} (b : Nat) : ∀ t w, (binOp .leq t (.float .f64 b) (.float .f64 4652007308841189376)).run P w = .ok (.bool (le b)) w := fun t w => by rw [binOp_float_cmp_leq]; rfl
theorem run_whole {P : Program} (b : Nat) : ∀ t w, (binOp .eql t (.float .f64 b) (.float .f64 (floatOfInt .f64 (cut b)))).run P w = .ok (.bool (whole b)) w := fun t w => by
  rw [binOp_float_cmp_eql, format_order_symm]; rfl
theorem toOk_eq {a b : Nat} (h : toOk a b = true) : (FloatKind.f64.format.order (floatOfInt .f64 (wholeN a)) a == some .eq) = true ∧ (FloatKind.f64.format.order (floatOfInt .f64 (wholeN b)) b == some .eq) = true := by
  have k : ∀ x, wholeB x = true → (FloatKind.f64.format.order (floatOfInt .f64 (wholeN x)) x == some .eq) = true := fun x hx => by
    unfold wholeB at hx
    simp only [Bool.and_eq_true] at hx
    obtain ⟨h1, h2, h3⟩ := hx
    unfold wholeN
    rw [if_pos ⟨h1, h2⟩]
    exact h3
  unfold toOk at h
  simp only [Bool.and_eq_true] at h
  exact ⟨k a h.1, k b h.2⟩
attribute [-go_sem] binOp_float_cmp_geq binOp_float_cmp_leq binOp_float_cmp_eql in
set_option maxRecDepth 100000 in
set_option maxHeartbeats 8000000 in
theorem placeTo_any (r c s p : Int) (a b : Nat) (w : World) (w0 : (Lit.int .i64 r).wf = true) (w1 : (Lit.int .i64 c).wf = true) (w2 : (Lit.int .i64 s).wf = true) (w3 : (Lit.int .i64 p).wf = true) (w4 : (Lit.float .f64 a).wf = true) (w5 : (Lit.float .f64 b).wf = true) :
    Calls Try.prog 5 #[.int .i64 r, .int .i64 c, .int .i64 s, .int .i64 p, .float .f64 a, .float .f64 b] w fun e w' => e = .returned (.bool true) ∧ Below w.heap.size w w' := by
  clear w0 w1 w2 w3 w4 w5
  have A1 := Lib.hid (fun w => of_any r c w)
  have A2 := Lib.hid (fun w => toOf_any r c w)
  go_enter Try.func5, Try.ntmps5
  go_wp2_with fail
  refine (A1.out _).mono ?_
  rintro e w' ⟨rfl, rfl⟩
  generalize ofRe r c = ore at *
  generalize ofIm r c = oim at *
  go_wp2_with fail
  refine (A2.out _).mono ?_
  rintro e w' ⟨rfl, rfl⟩
  generalize hR : (if ofOk r c then r else 0) = R at *
  generalize hC : (if ofOk r c then c else 0) = C at *
  have HR := Lib.hid hR
  have HC := Lib.hid hC
  clear hR hC A1 A2
  go_upto_region 2 with fail
  go_cut [16] from 33 (fun s16 wc => s16 = .bool (decide (ofOk r c)) ∧ wc = w)
  case first => as_aux_lemma =>
    by_cases h0 : -1000 ≤ r
    · have d0 : decide (-1000 ≤ r) = true := decide_eq_true h0
      by_cases h1 : r ≤ 1000
      · have d1 : decide (r ≤ 1000) = true := decide_eq_true h1
        by_cases h2 : -1000 ≤ c
        · have d2 : decide (-1000 ≤ c) = true := decide_eq_true h2
          by_cases h3 : c ≤ 1000
          · have d3 : decide (c ≤ 1000) = true := decide_eq_true h3
            have E := Lib.hid (show decide (ofOk r c) = true from decide_eq_true ⟨h0, h1, h2, h3⟩)
            go_wp2_with fail
            go_meet
            case rel => exact ⟨by rw [E.out], rfl⟩
          · have d3 : decide (c ≤ 1000) = false := decide_eq_false h3
            have E := Lib.hid (decide_eq_false (fun h : ofOk r c => h3 (by obtain ⟨g0, g1, g2, g3⟩ := h; assumption)))
            go_wp2_with fail
            go_meet
            case rel => exact ⟨by rw [E.out], rfl⟩
        · have d2 : decide (-1000 ≤ c) = false := decide_eq_false h2
          have E := Lib.hid (decide_eq_false (fun h : ofOk r c => h2 (by obtain ⟨g0, g1, g2, g3⟩ := h; assumption)))
          go_wp2_with fail
          go_meet
          case rel => exact ⟨by rw [E.out], rfl⟩
      · have d1 : decide (r ≤ 1000) = false := decide_eq_false h1
        have E := Lib.hid (decide_eq_false (fun h : ofOk r c => h1 (by obtain ⟨g0, g1, g2, g3⟩ := h; assumption)))
        go_wp2_with fail
        go_meet
        case rel => exact ⟨by rw [E.out], rfl⟩
    · have d0 : decide (-1000 ≤ r) = false := decide_eq_false h0
      have E := Lib.hid (decide_eq_false (fun h : ofOk r c => h0 (by obtain ⟨g0, g1, g2, g3⟩ := h; assumption)))
      go_wp2_with fail
      go_meet
      case rel => exact ⟨by rw [E.out], rfl⟩
  case rest =>
    obtain ⟨rfl, hwc⟩ := hcut
    rw [hwc]
    clear hwc
    generalize hM : decide (ofOk r c) = M at *
    have HM := Lib.hid hM
    clear hM
    go_upto_region 3 with fail
    go_cut [73] from 47 (fun s73 wx => s73 = .bool false ∧ wx = w)
    case first => as_aux_lemma =>
      by_cases h : ofOk r c
      · obtain rfl : R = r := by rw [← HR.out, if_pos h]
        obtain rfl : C = c := by rw [← HC.out, if_pos h]
        obtain rfl : M = true := by rw [← HM.out]; exact decide_eq_true h
        have n1 : (R != R) = false := by simp
        have n2 : (C != C) = false := by simp
        clear h HR HC HM
        go_wp2_with fail
        go_meet
        case rel => exact ⟨rfl, rfl⟩
      · obtain rfl : R = 0 := by rw [← HR.out, if_neg h]
        obtain rfl : C = 0 := by rw [← HC.out, if_neg h]
        obtain rfl : M = false := by rw [← HM.out]; exact decide_eq_false h
        clear h HR HC HM
        go_wp2_with fail
        go_meet
        case rel => exact ⟨rfl, rfl⟩
    case rest =>
      obtain ⟨rfl, hwc⟩ := hcut
      rw [hwc]
      clear hwc
      go_wp2_with fail
      refine (corner_any r c s p _).mono ?_
      rintro e w' ⟨q1, q2, rfl, k1, k2, rfl⟩
      have TO := Lib.hid (fun w => to_small q1 q2 _ _ w k1 k2 (corner_lt r c s p).1 (corner_lt r c s p).2 (corner_lt2 r c s p).1 (corner_lt2 r c s p).2)
      generalize hP : (if cornerOk r c s p then r * s - p else 0) = P at *
      generalize hQ : (if cornerOk r c s p then c * s - p else 0) = Q at *
      have HP := Lib.hid hP
      have HQ := Lib.hid hQ
      clear hP hQ k1 k2
      go_wp2_with fail
      refine (TO.out _).mono ?_
      rintro e w' ⟨rfl, rfl⟩
      go_upto_region 6 with fail
      go_cut [20] from 84 (fun s20 wx => s20 = .bool (decide (cornerOk r c s p)) ∧ wx = w)
      case first => as_aux_lemma =>
        by_cases h0 : 0 ≤ r
        · have d0 : decide (0 ≤ r) = true := decide_eq_true h0
          by_cases h1 : r ≤ 16
          · have d1 : decide (r ≤ 16) = true := decide_eq_true h1
            by_cases h2 : 0 ≤ c
            · have d2 : decide (0 ≤ c) = true := decide_eq_true h2
              by_cases h3 : c ≤ 16
              · have d3 : decide (c ≤ 16) = true := decide_eq_true h3
                by_cases h4 : 1 ≤ s
                · have d4 : decide (1 ≤ s) = true := decide_eq_true h4
                  by_cases h5 : s ≤ 4
                  · have d5 : decide (s ≤ 4) = true := decide_eq_true h5
                    by_cases h6 : 0 ≤ p
                    · have d6 : decide (0 ≤ p) = true := decide_eq_true h6
                      by_cases h7 : p ≤ 5
                      · have d7 : decide (p ≤ 5) = true := decide_eq_true h7
                        have E := Lib.hid (show decide (cornerOk r c s p) = true from decide_eq_true ⟨h0, h1, h2, h3, h4, h5, h6, h7⟩)
                        go_wp2_with fail
                        go_meet
                        case rel => exact ⟨by rw [E.out], rfl⟩
                      · have d7 : decide (p ≤ 5) = false := decide_eq_false h7
                        have E := Lib.hid (decide_eq_false (fun h : cornerOk r c s p => h7 (by obtain ⟨g0, g1, g2, g3, g4, g5, g6, g7⟩ := h; assumption)))
                        go_wp2_with fail
                        go_meet
                        case rel => exact ⟨by rw [E.out], rfl⟩
                    · have d6 : decide (0 ≤ p) = false := decide_eq_false h6
                      have E := Lib.hid (decide_eq_false (fun h : cornerOk r c s p => h6 (by obtain ⟨g0, g1, g2, g3, g4, g5, g6, g7⟩ := h; assumption)))
                      go_wp2_with fail
                      go_meet
                      case rel => exact ⟨by rw [E.out], rfl⟩
                  · have d5 : decide (s ≤ 4) = false := decide_eq_false h5
                    have E := Lib.hid (decide_eq_false (fun h : cornerOk r c s p => h5 (by obtain ⟨g0, g1, g2, g3, g4, g5, g6, g7⟩ := h; assumption)))
                    go_wp2_with fail
                    go_meet
                    case rel => exact ⟨by rw [E.out], rfl⟩
                · have d4 : decide (1 ≤ s) = false := decide_eq_false h4
                  have E := Lib.hid (decide_eq_false (fun h : cornerOk r c s p => h4 (by obtain ⟨g0, g1, g2, g3, g4, g5, g6, g7⟩ := h; assumption)))
                  go_wp2_with fail
                  go_meet
                  case rel => exact ⟨by rw [E.out], rfl⟩
              · have d3 : decide (c ≤ 16) = false := decide_eq_false h3
                have E := Lib.hid (decide_eq_false (fun h : cornerOk r c s p => h3 (by obtain ⟨g0, g1, g2, g3, g4, g5, g6, g7⟩ := h; assumption)))
                go_wp2_with fail
                go_meet
                case rel => exact ⟨by rw [E.out], rfl⟩
            · have d2 : decide (0 ≤ c) = false := decide_eq_false h2
              have E := Lib.hid (decide_eq_false (fun h : cornerOk r c s p => h2 (by obtain ⟨g0, g1, g2, g3, g4, g5, g6, g7⟩ := h; assumption)))
              go_wp2_with fail
              go_meet
              case rel => exact ⟨by rw [E.out], rfl⟩
          · have d1 : decide (r ≤ 16) = false := decide_eq_false h1
            have E := Lib.hid (decide_eq_false (fun h : cornerOk r c s p => h1 (by obtain ⟨g0, g1, g2, g3, g4, g5, g6, g7⟩ := h; assumption)))
            go_wp2_with fail
            go_meet
            case rel => exact ⟨by rw [E.out], rfl⟩
        · have d0 : decide (0 ≤ r) = false := decide_eq_false h0
          have E := Lib.hid (decide_eq_false (fun h : cornerOk r c s p => h0 (by obtain ⟨g0, g1, g2, g3, g4, g5, g6, g7⟩ := h; assumption)))
          go_wp2_with fail
          go_meet
          case rel => exact ⟨by rw [E.out], rfl⟩
      case rest =>
        obtain ⟨rfl, hwc⟩ := hcut
        rw [hwc]
        clear hwc
        go_upto_region 7 with fail
        generalize hN : decide (cornerOk r c s p) = N at *
        have HN := Lib.hid hN
        clear hN
        go_cut [148] from 114 (fun s148 wx => s148 = .bool false ∧ wx = w)
        case first => as_aux_lemma =>
          by_cases h : cornerOk r c s p
          · obtain rfl : P = r * s - p := by rw [← HP.out, if_pos h]
            obtain rfl : Q = c * s - p := by rw [← HQ.out, if_pos h]
            obtain rfl : N = true := by rw [← HN.out]; exact decide_eq_true h
            obtain ⟨h1, h2, h3, h4, h5, h6, h7, h8⟩ := h
            have z0 := Int.mul_nonneg h1 (show 0 ≤ s by omega)
            have z1 := Int.mul_le_mul h2 h6 (by omega) (show (0 : Int) ≤ 16 by omega)
            have z2 := Int.mul_nonneg h3 (show 0 ≤ s by omega)
            have z3 := Int.mul_le_mul h4 h6 (by omega) (show (0 : Int) ≤ 16 by omega)
            have n1 : (r * s - p != r * s - p) = false := by simp
            have n2 : (c * s - p != c * s - p) = false := by simp
            clear HP HQ HN
            go_wp2_with fail
            go_meet
            case rel => exact ⟨rfl, rfl⟩
          · obtain rfl : P = 0 := by rw [← HP.out, if_neg h]
            obtain rfl : Q = 0 := by rw [← HQ.out, if_neg h]
            obtain rfl : N = false := by rw [← HN.out]; exact decide_eq_false h
            clear h HP HQ HN
            go_wp2_with fail
            go_meet
            case rel => exact ⟨rfl, rfl⟩
        case rest =>
          obtain ⟨rfl, hwc⟩ := hcut
          rw [hwc]
          clear hwc
          go_wp2_with fail
          refine (to_any a b _).mono ?_
          rintro e w' ⟨rfl, rfl⟩
          generalize hU : (if toOk a b = true then wholeN a else 0) = U at *
          generalize hV : (if toOk a b = true then wholeN b else 0) = V at *
          generalize hT : toOk a b = T at *
          have HU := Lib.hid hU
          have HV := Lib.hid hV
          have HT := Lib.hid hT
          clear hU hV hT
          go_upto_region 10 with fail
          go_cut [24] from 157 (fun s24 wx => s24 = .bool T ∧ wx = w)
          case first => as_aux_lemma =>
            have Fa := run_ge (P := Try.prog) a
            have La := run_le (P := Try.prog) a
            have Fb := run_ge (P := Try.prog) b
            have Lb := run_le (P := Try.prog) b
            have HC2 := Lib.hid (fun (g0 : ge a = true) (g1 : le a = true) => (fun w => run_convert_float_int w 33 2 .f64 .i64 a (cut a) (by rw [Try.underlying33]; rfl) Try.underlying2 (cut_some g0 g1).1 : ∀ w, (convert 33 2 (.float .f64 a)).run Try.prog w = .ok (.int .i64 (cut a)) w))
            have HC3 := Lib.hid (fun (g0 : ge b = true) (g1 : le b = true) => (fun w => run_convert_float_int w 33 2 .f64 .i64 b (cut b) (by rw [Try.underlying33]; rfl) Try.underlying2 (cut_some g0 g1).1 : ∀ w, (convert 33 2 (.float .f64 b)).run Try.prog w = .ok (.int .i64 (cut b)) w))
            have Va : ∀ w, (convert 2 33 (.int .i64 (cut a))).run Try.prog w = .ok (.float .f64 (floatOfInt .f64 (cut a))) w := fun w => run_convert_int_float w _ _ _ _ _ (by rw [Try.underlying2]; rfl) Try.underlying33
            have Vb : ∀ w, (convert 2 33 (.int .i64 (cut b))).run Try.prog w = .ok (.float .f64 (floatOfInt .f64 (cut b))) w := fun w => run_convert_int_float w _ _ _ _ _ (by rw [Try.underlying2]; rfl) Try.underlying33
            have Ea := run_whole (P := Try.prog) a
            have Eb := run_whole (P := Try.prog) b
            have E : T = ((ge a && (le a && whole a)) && (ge b && (le b && whole b))) := by rw [← HT.out]; rfl
            have HE := Lib.hid E
            clear E HT HU HV HN HP HQ HM HR HC
            generalize floatOfInt .f64 (cut a) = fa at *
            generalize floatOfInt .f64 (cut b) = fb at *
            generalize whole a = A at *
            generalize whole b = B at *
            generalize cut a = na at *
            generalize cut b = nb at *
            generalize ge a = G0 at *
            generalize le a = G1 at *
            generalize ge b = G2 at *
            generalize le b = G3 at *
            cases G0
            · go_wp2_with (simp only [Fa])
              go_meet
              case rel => exact ⟨by rw [HE.out]; rfl, rfl⟩
            · cases G1
              · go_wp2_with (simp only [Fa, La])
                go_meet
                case rel => exact ⟨by rw [HE.out]; rfl, rfl⟩
              · have hca := HC2.out rfl rfl
                cases G2
                · go_wp2_with (simp only [Fa, La, Fb])
                  go_meet
                  case rel => exact ⟨by rw [HE.out]; cases A <;> rfl, rfl⟩
                · cases G3
                  · go_wp2_with (simp only [Fa, La, Fb, Lb])
                    go_meet
                    case rel => exact ⟨by rw [HE.out]; cases A <;> rfl, rfl⟩
                  · have hcb := HC3.out rfl rfl
                    cases A
                    · go_wp2_with (simp only [Fa, La, Fb, Lb, hca, Va, Ea])
                      go_meet
                      case rel => exact ⟨by rw [HE.out]; rfl, rfl⟩
                    · go_wp2_with (simp only [Fa, La, Fb, Lb, hca, hcb, Va, Vb, Ea, Eb])
                      go_meet
                      case rel => exact ⟨by rw [HE.out]; cases B <;> rfl, rfl⟩
          case rest =>
            obtain ⟨rfl, hwc⟩ := hcut
            rw [hwc]
            clear hwc
            by_cases hT : T = true
            · obtain ⟨sa, sb⟩ := toOk_eq (HT.out.trans hT)
              obtain rfl : U = wholeN a := by rw [← HU.out, if_pos hT]
              obtain rfl : V = wholeN b := by rw [← HV.out, if_pos hT]
              subst hT
              have sa2 : ∀ t w, (binOp .eql t (.float .f64 (floatOfInt .f64 (wholeN a))) (.float .f64 a)).run Try.prog w = .ok (.bool true) w := fun t w => by rw [binOp_float_cmp_eql, sa]; rfl
              have sb2 : ∀ t w, (binOp .eql t (.float .f64 (floatOfInt .f64 (wholeN b))) (.float .f64 b)).run Try.prog w = .ok (.bool true) w := fun t w => by rw [binOp_float_cmp_eql, sb]; rfl
              clear sa sb
              generalize wholeN a = U at *
              generalize wholeN b = V at *
              clear HT HU HV HN HP HQ HM HR HC
              go_wp2_with (first | simp only [sa2] | simp only [sb2] | (go_at_call 14; refine (awake9_any _).mono ?_; rintro e w2 ⟨rfl, hb⟩))
              go_ret
              exact ⟨rfl, hb⟩
            · obtain rfl : U = 0 := by rw [← HU.out, if_neg hT]
              obtain rfl : V = 0 := by rw [← HV.out, if_neg hT]
              obtain rfl : T = false := eq_false_of_ne_true hT
              clear hT HT HU HV HN HP HQ HM HR HC
              go_wp2_with (go_at_call 14; refine (awake9_any _).mono ?_; rintro e w2 ⟨rfl, hb⟩)
              go_ret
              exact ⟨rfl, hb⟩
end Go.Proofs.Ytmebchgjofpepaa
