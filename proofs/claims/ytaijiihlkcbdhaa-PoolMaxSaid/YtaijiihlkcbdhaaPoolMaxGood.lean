/-
  The walk of the law PoolMax, where there are greatest ones.
-/
import Derived.Test.YtaijiihlkcbdhaaPoolMaxZ
import Derived.Test.YtaijiihlkcbdhaaTOut
namespace Go.Proofs.Ytaijiihlkcbdhaa
open Go.RowKit
set_option linter.unusedVariables false
attribute [local go_sem ↓] Go.wp_at_zero Go.wp_at_succ
/-- Whether the greatest's place has been met, so far in a row of the window. -/
def InRel (r0 c0 kn r : Nat) (wq : World) (bi i : Value) (wr : World) : Prop := ∃ (cc q2 : Nat) (bw : Bool), cc ≤ kn ∧ i = .int .i64 cc ∧ bi = .bool bw ∧ ((r0 < r ∨ (r0 = r ∧ c0 < cc)) → bw = true) ∧ wr = wq.drewN q2
/-- Whether it has been met, so far in the window. -/
def OnRel (r0 kn : Nat) (wq : World) (bi i : Value) (wr : World) : Prop := ∃ (r q : Nat) (bv : Bool), r ≤ kn ∧ i = .int .i64 r ∧ bi = .bool bv ∧ (r0 < r → bv = true) ∧ wr = wq.drewN q
set_option maxRecDepth 100000 in
set_option maxHeartbeats 4000000 in
theorem poolMax_good (a : Option Addr) (l c : Nat) (d : List Int) (e : Int) (b : Option Addr) (m k0 : Nat) (z : List Int) (k s : Int) (ga : Option Addr) (gl gc : Nat) (g : List Int) (w : World) (h0 : RowAt .i64 w a l d) (h1 : RowAt .i8 w b m z) (hg : RowAt .i8 w ga gl g) (hgood : T.err d e z k s = 0) (hm2 : m ≤ 2000) :
    Calls Try.prog 5 #[tensor a l c e b m k0, .int .i64 k, .int .i64 s, .slice ga gl gc] w (GivesV (.bool true) w) := by
  have hmm := h1.len_le
  obtain ⟨ht, hov⟩ := T.err_zero hgood
  obtain ⟨f1, f2, f3, f4, f5, f6, f7, f8, f9, f10, f11, f12, f13⟩ := T.facts ht hov
  obtain ⟨_, _, kb1, kb2, sb1, sb2, _, _⟩ := outW_fit (show 1 ≤ outW (d.getD 2 0) k s 0 by omega)
  obtain ⟨s1, s2, s3, _, _⟩ := T.out_size ht hov
  obtain rfl : l = 4 := by rw [← h0.len_eq]; exact hov.1
  obtain ⟨kn, rfl⟩ : ∃ kn : Nat, k = kn := ⟨k.toNat, by omega⟩
  have B1 := Lib.hid (below_alloc w (Obj.cells #[.slice a 4 c, .int .i64 e, .slice b m k0] 25))
  have HN := Lib.hid (tensor_cells w a 4 c e b m k0 25)
  have H0 := Lib.hid (h0.below B1.out)
  have H1 := Lib.hid (h1.below B1.out)
  have HG := Lib.hid (hg.below B1.out)
  have M := max_goodC a 4 c d e b m k0 z kn s _ H0.out H1.out ht hov
  have HM := Lib.hid M
  have HT := Lib.hid ht
  have HO := Lib.hid hov
  have HLen := Lib.hid h1.len_eq
  have HS := Lib.hid s1
  obtain ⟨D1, hD1⟩ : ∃ D1, d.getD 1 0 = D1 := ⟨_, rfl⟩
  obtain ⟨R, hR⟩ : ∃ R, d.getD 2 0 = R := ⟨_, rfl⟩
  obtain ⟨C, hC⟩ : ∃ C, d.getD 3 0 = C := ⟨_, rfl⟩
  rw [hD1] at f11
  rw [hR] at f12
  rw [hC] at f13
  have HF := Lib.hid (And.intro f11 (And.intro f12 f13))
  have HD1 := Lib.hid hD1
  have HR := Lib.hid hR
  have HC3 := Lib.hid hC
  clear h0 h1 hg hgood M ht hov f1 f2 f3 f4 f5 f6 f7 f8 f9 f10 f11 f12 f13 s1 s3 hD1 hR hC
  unfold tensor
  unfold tensor at HM
  go_enter Try.func5, Try.ntmps5
  go_wp2_with fail
  refine HM.out.mono ?_
  rintro r_ wA ⟨ava, avl, avc, avb, avm, avk, avfa, avfl, avfc, hcap, rfl, td, tz, tf, hb⟩
  obtain rfl : avl = 4 := by rw [← td.len_eq]; rfl
  have l1 := tf.len_eq
  have l2 := tz.len_eq
  rw [T.len_tops.1] at l1
  rw [T.len_tops.2.1] at l2
  obtain rfl : avfl = avm := by omega
  have bt := below_alloc wA (Obj.cells #[.slice ava 4 avc, .int .i64 e, .slice avb avfl avk] 25)
  have bb := hb.step bt
  have N_X := Lib.hid (blk_below HN.out bb)
  have N_T := Lib.hid (tensor_cells wA ava 4 avc e avb avfl avk 25)
  have F_D := Lib.hid (H0.out.below bb)
  have F_X := Lib.hid (H1.out.below bb)
  have F_G := Lib.hid (HG.out.below bb)
  have F_TD := Lib.hid (td.below bt)
  have F_TZ := Lib.hid (tz.below bt)
  have F_TF := Lib.hid (tf.below bt)
  have BA := Lib.hid (B1.out.step bb)
  have HC := Lib.hid l2
  have tle := tz.len_le
  clear HM td tz tf hb HN H0 H1 HG B1 bt bb l1 l2
  unfold tensor
  obtain ⟨x0, x1, x2, _⟩ := newTensor N_X.out
  obtain ⟨uA, huA⟩ : ∃ uA, wA.alloc (Obj.cells #[.slice ava 4 avc, .int .i64 e, .slice avb avfl avk] 25) = uA := ⟨_, rfl⟩
  obtain ⟨gA, hgA⟩ : ∃ gA, wA.heap.size = gA := ⟨_, rfl⟩
  have LT := light_any uA.heap.size 1 (by omega) [m] (uA.alloc (Obj.cells #[.slice a 4 c, .int .i64 e, .slice b m k0] 25)) (by
    have N2 := newTensor (tensor_cells uA a 4 c e b m k0 25)
    refine ⟨rfl, fun i hi => ?_⟩
    obtain rfl : i = 0 := by omega
    exact ⟨a, 4, c, e, b, k0, by show m ≤ _; omega, N2.1, N2.2.1, N2.2.2.1⟩)
  rw [show [m].sum = m by simp, decide_eq_true hm2] at LT
  have HLT := Lib.hid LT
  have HU := Lib.hid huA
  clear LT huA
  go_wp2_with fail
  rw [HU.out]
  have hsz : gA + 1 = uA.heap.size := by rw [← HU.out, World.size_alloc, hgA]
  rw [hsz]
  refine HLT.out.mono ?_
  rintro e1 w3 ⟨rfl, hb3⟩
  have hb4 : Below uA.heap.size uA w3 := (below_alloc uA _).step hb3
  rw [HU.out] at N_X N_T F_D F_X F_G F_TD F_TZ F_TF BA
  rw [hgA] at N_T
  replace N_X := Lib.hid (blk_below N_X.out hb4)
  replace N_T := Lib.hid (blk_below N_T.out hb4)
  replace F_D := Lib.hid (F_D.out.below hb4)
  replace F_X := Lib.hid (F_X.out.below hb4)
  replace F_G := Lib.hid (F_G.out.below hb4)
  replace F_TD := Lib.hid (F_TD.out.below hb4)
  replace F_TZ := Lib.hid (F_TZ.out.below hb4)
  replace F_TF := Lib.hid (F_TF.out.below hb4)
  replace BA := Lib.hid (BA.out.step hb4)
  clear x0 x1 x2 HLT HU hb3 hb4 hsz hgA
  obtain ⟨x0, x1, x2, _⟩ := newTensor N_X.out
  obtain ⟨y0, y1, y2, _⟩ := newTensor N_T.out
  obtain ⟨pd, od, rfl, ed⟩ := F_D.out.cells (by omega)
  have d2 := ed 2 (by omega)
  have d3 := ed 3 (by omega)
  rw [HR.out] at d2
  rw [HC3.out] at d3
  have c1 : ((avfl : Int) != (avfl : Int)) = false := by simp
  clear ed
  go_wp2_with fail
  go_quiet (fail)
  go_wp2_with fail
  clear x0 x1 x2 y0 y1 y2 d2 d3 c1
  obtain ⟨wo, hwo⟩ : ∃ wo : World, wo = w3.drewN nq := ⟨_, rfl⟩
  have hbq := hwo ▸ below_drewN w3 nq
  replace N_X := Lib.hid (blk_below N_X.out hbq)
  replace N_T := Lib.hid (blk_below N_T.out hbq)
  replace F_D := Lib.hid (F_D.out.below hbq)
  replace F_X := Lib.hid (F_X.out.below hbq)
  replace F_G := Lib.hid (F_G.out.below hbq)
  replace F_TD := Lib.hid (F_TD.out.below hbq)
  replace F_TZ := Lib.hid (F_TZ.out.below hbq)
  replace F_TF := Lib.hid (F_TF.out.below hbq)
  replace BA := Lib.hid (BA.out.step hbq)
  rw [← hwo]
  clear hwo hbq
  go_loopw [82] (fun i wr => ∃ j : Nat, j ≤ avfl ∧ i = .int .i64 j ∧ Below wo.heap.size wo wr) (fun i _ => avfl - (intOf i).toNat)
  case atStart => exact ⟨0, Nat.zero_le _, rfl, Below.refl _ _⟩
  case round =>
    obtain ⟨j, hj, rfl, hbel⟩ := hrel
    have BB := Lib.hid hbel
    by_cases hlt : j < avfl
    · obtain ⟨A0, A1, N, A2, A3, f, r0, c0, g1, g2, g3, g4, g5, g6, g7, g8, g9, gr, gc0, gf, gall⟩ := T.window HT.out HO.out (j := j) (by rw [HC.out]; exact hlt)
      rw [HLen.out] at g3 gall
      rw [HR.out, HC3.out] at gf gall
      rw [HD1.out] at g5 g6 g7
      rw [Int.toNat_natCast] at gr gc0 gall
      have GF := Lib.hid gf
      have GALL := Lib.hid gall
      have GN := Lib.hid (And.intro g5 (And.intro g6 (And.intro g7 (And.intro g8 g9))))
      have P_X := Lib.hid (blk_below N_X.out hbel)
      have P_T := Lib.hid (blk_below N_T.out hbel)
      have Q_D := Lib.hid (F_D.out.below hbel)
      have Q_X := Lib.hid (F_X.out.below hbel)
      have Q_TZ := Lib.hid (F_TZ.out.below hbel)
      have AT := refAt_some ava 4 avc (T.outDims d kn s) j wr hcap (F_TD.out.below hbel) (by omega) (by rw [HS.out, HC.out]; omega)
      rw [g1] at AT
      have HAT := Lib.hid AT
      obtain ⟨y0, y1, y2, _⟩ := newTensor P_T.out
      obtain ⟨pf, of, rfl, ef⟩ := (F_TF.out.below hbel).cells (by omega)
      have f0 := ef j hlt
      rw [g2] at f0
      clear gf gall AT ef g1 g2 g5 g6 g7 g8 g9 hbel
      go_wp2_with fail
      refine HAT.out.mono ?_
      rintro e1 w5 ⟨pa, ca, rfl, hrow, hb5⟩
      replace P_X := Lib.hid (blk_below P_X.out hb5)
      replace P_T := Lib.hid (blk_below P_T.out hb5)
      replace Q_D := Lib.hid (Q_D.out.below hb5)
      replace Q_X := Lib.hid (Q_X.out.below hb5)
      replace Q_TZ := Lib.hid (Q_TZ.out.below hb5)
      replace BB := Lib.hid (BB.out.step hb5)
      have Q_A := Lib.hid hrow
      clear y0 y1 y2 f0 hb5 hrow HAT
      obtain ⟨x0, x1, x2, _⟩ := newTensor P_X.out
      obtain ⟨y0, y1, y2, _⟩ := newTensor P_T.out
      obtain ⟨px, ox, rfl, ex⟩ := Q_X.out.cells (by omega)
      obtain ⟨pt, ot, rfl, et⟩ := Q_TZ.out.cells (by omega)
      have fx := ex f g3
      have ft := et j hlt
      rw [g4] at ft
      generalize hV : z.getD f 0 = v at *
      have c1 : (v != v) = false := by simp
      have c2 : decide ((f : Int) < 0) = false := decide_eq_false (by omega)
      have c3 : decide ((m : Int) ≤ f) = false := decide_eq_false (by omega)
      have c4 : decide (m ≤ f) = false := decide_eq_false (by omega)
      clear ex et
      go_wp2_with fail
      go_quiet (fail)
      go_wp2_with fail
      clear x0 x1 x2 y0 y1 y2 fx ft c1 c2 c3 c4
      obtain ⟨wq, hwq⟩ : ∃ wq : World, wq = w5.drewN nq := ⟨_, rfl⟩
      have hbq := hwq ▸ below_drewN w5 nq
      replace P_X := Lib.hid (blk_below P_X.out hbq)
      replace P_T := Lib.hid (blk_below P_T.out hbq)
      replace Q_D := Lib.hid (Q_D.out.below hbq)
      replace Q_X := Lib.hid (Q_X.out.below hbq)
      replace Q_TZ := Lib.hid (Q_TZ.out.below hbq)
      replace Q_A := Lib.hid (Q_A.out.below hbq)
      replace BB := Lib.hid (BB.out.step hbq)
      have GV := Lib.hid hV
      rw [← hwq]
      clear hwq hbq hV
      go_loopw [17, 119] (fun bi i wr => OnRel r0 kn wq bi i wr) (fun _ i _ => kn - (intOf i).toNat)
      case atStart => exact ⟨0, 0, false, Nat.zero_le _, rfl, rfl, fun h => absurd h (by omega), rfl⟩
      case round =>
        obtain ⟨r, q, bv, hr, rfl, rfl, hbv, rfl⟩ := hrel
        have HBV := Lib.hid hbv
        clear hbv
        by_cases hlr : r < kn
        · go_wp2_with fail
          go_loopw [17, 123] (fun bi i wr => InRel r0 c0 kn r wq bi i wr) (fun _ i _ => kn - (intOf i).toNat)
          case atStart => exact ⟨0, q, bv, Nat.zero_le _, rfl, rfl, fun h => HBV.out (by omega), rfl⟩
          case round =>
            obtain ⟨cc, q2, bw, hcc, rfl, rfl, hbw, rfl⟩ := hrel
            have HBW := Lib.hid hbw
            clear hbw
            by_cases hlc : cc < kn
            · obtain ⟨zn, ez, hzl, hze⟩ := GALL.out r cc hlr hlc
              obtain ⟨m0, m1, m2, m3, m4, m5, m6, m7, q0', q1', q2', q3', q4', q5', q6', q7', q8', q9'⟩ := T.z_wraps (s := s) GN.out.1 GN.out.2.1 GN.out.2.2.1 GN.out.2.2.2.1 GN.out.2.2.2.2 (show 0 ≤ R by have := HF.out; omega) (by omega) (show 1 ≤ C by have := HF.out; omega) (by rw [ez]; omega)
              rw [ez] at q9'
              have HEZ := Lib.hid ez
              obtain ⟨x0, x1, x2, _⟩ := newTensor P_X.out
              obtain ⟨y0, y1, y2, _⟩ := newTensor P_T.out
              obtain ⟨_, _, hpx, ex⟩ := Q_X.out.cells (by omega)
              obtain ⟨_, _, hpt, et⟩ := Q_TZ.out.cells (by omega)
              obtain ⟨_, _, hpd, ed⟩ := Q_D.out.cells (by omega)
              obtain ⟨_, _, rfl, ea⟩ := Q_A.out.cells (by omega)
              cases hpx
              cases hpt
              cases hpd
              have fx := ex zn hzl
              have ft := et j hlt
              rw [g4] at ft
              have fd := ed 1 (by omega)
              rw [HD1.out] at fd
              have fa0 := ea 0 (by omega)
              have fa1 := ea 1 (by omega)
              have fa2 := ea 2 (by omega)
              have fa3 := ea 3 (by omega)
              simp only [List.getD_cons_zero, List.getD_cons_succ] at fa0 fa1 fa2 fa3
              rw [Nat.add_zero] at fa0
              clear ex et ed ea ez
              generalize z.getD zn 0 = u at *
              have c1 : decide (v < u) = false := decide_eq_false (by omega)
              have c2 : decide ((zn : Int) < 0) = false := decide_eq_false (by omega)
              have c3 : decide ((m : Int) ≤ zn) = false := decide_eq_false (by omega)
              generalize hcf : ((zn : Int) == (f : Int)) = cf at *
              have HCF := Lib.hid hcf
              go_wp2_with fail
              go_quiet (fail)
              go_wp2_with fail
              go_quiet (fail)
              cases bw
              · go_wp2_with fail
                clear x0 x1 x2 y0 y1 y2 fx ft fd fa0 fa1 fa2 fa3 c1 c2 c3 q0' q1' q2' q3' q4' q5' q6' q7' q8' q9' hze hcf
                go_roundw
                case rel =>
                  refine ⟨cc + 1, _, cf, by omega, by go_num, rfl, fun h => ?_, rfl⟩
                  by_cases hh : r0 < r ∨ (r0 = r ∧ c0 < cc)
                  · exact absurd (HBW.out hh) (by simp)
                  · have e1 : r0 = r := by omega
                    have e2 : c0 = cc := by omega
                    have := GF.out
                    rw [e1, e2, HEZ.out] at this
                    rw [← HCF.out, this]
                    simp
                case measure => simp [intOf]; omega
              · go_wp2_with fail
                clear x0 x1 x2 y0 y1 y2 fx ft fd fa0 fa1 fa2 fa3 c1 c2 c3 q0' q1' q2' q3' q4' q5' q6' q7' q8' q9' hze hcf
                go_roundw
                case rel =>
                  exact ⟨cc + 1, _, true, by omega, by go_num, rfl, fun h => rfl, rfl⟩
                case measure => simp [intOf]; omega
            · obtain rfl : kn = cc := by omega
              go_wp2_with fail
              go_roundw
              case rel => exact ⟨r + 1, q2, bw, by omega, by go_num, rfl, fun h => HBW.out (by omega), rfl⟩
              case measure => simp [intOf]; omega
        · obtain rfl : kn = r := by omega
          obtain rfl : bv = true := HBV.out gr
          go_wp2_with fail
          go_roundw
          case rel => exact ⟨j + 1, by omega, by go_num, BB.out.draws q⟩
          case measure => simp [intOf]; omega
    · obtain rfl : avfl = j := by omega
      have P_X := Lib.hid (blk_below N_X.out hbel)
      have P_T := Lib.hid (blk_below N_T.out hbel)
      have Q_D := Lib.hid (F_D.out.below hbel)
      have Q_X := Lib.hid (F_X.out.below hbel)
      have Q_G := Lib.hid (F_G.out.below hbel)
      have Q_TD := Lib.hid (F_TD.out.below hbel)
      have Q_TF := Lib.hid (F_TF.out.below hbel)
      have BB2 := Lib.hid (BA.out.step hbel)
      obtain ⟨w9, rfl⟩ : ∃ w9 : World, w9 = wr := ⟨_, rfl⟩
      clear N_X N_T F_D F_X F_G F_TD F_TZ F_TF BA BB hbel
      obtain ⟨y0, y1, y2, _⟩ := newTensor P_T.out
      go_wp2_with fail
      have hmk := fun w : World => run_make_row' (P := Try.prog) 23 37 (.int .i8 0) 1 Try.underlying23 infoI8 rfl .i64 .i64 avfl (by omega) (by omega) w
      go_cut [21] (fun s7 wx => TOut ava 4 avc e avfl w9 s7 wx)
      case first => as_aux_lemma =>
        go_region_held3 (fun w' => w'.cell? ⟨gA, 0, none⟩ = some (.slice ava 4 avc) ∧ w'.cell? ⟨gA, 1, none⟩ = some (.int .i64 e) ∧ w'.cell? ⟨gA, 2, none⟩ = some (.slice avb avfl avk)) (go_keep) (fail)
        all_goals
          go_wp2_with fail
          go_meet
          case rel => first | exact TOut.one ava 4 avc e avfl w9 tle | exact TOut.two ava 4 avc e avfl w9 tle
      case rest =>
        obtain ⟨bo, bd, rfl, ho, hd4, hb5, hl1, hl2⟩ := hcut
        rw [T.gqTo_zero g avfl] at hd4
        have hs3 : w9.heap.size ≤ bd := (hd4.lt bd rfl).1
        have HO5 := Lib.hid ho
        have HD5 := Lib.hid hd4
        have HB5 := Lib.hid hb5
        clear y0 y1 y2 ho hd4 hb5 hmk
        obtain ⟨y0, y1, y2, _⟩ := newTensor HO5.out
        go_wp2_with fail
        obtain ⟨wo, rfl⟩ : ∃ wo : World, wo = wc := ⟨_, rfl⟩
        clear y0 y1 y2
        go_loopw [22, 203] (fun sv i wr => ∃ j : Nat, j ≤ avfl ∧ i = .int .i64 j ∧ sv = .int .i64 (T.gsum g j) ∧ wr.ownsRow w9.heap.size 37 1 (.slice (some ⟨bd, 0, none⟩) avfl avfl) avfl ((T.gqTo g avfl j).map (Value.int .i8)) ∧ Below w9.heap.size w9 wr ∧ wr.heap[bo]? = some (.cells #[.slice ava 4 avc, .int .i64 e, .slice (some ⟨bd, 0, none⟩) avfl avfl] 25 (0, 0))) (fun _ i _ => avfl - (intOf i).toNat)
        case atStart => exact ⟨0, Nat.zero_le _, rfl, rfl, HD5.out, HB5.out, HO5.out⟩
        case round =>
          obtain ⟨j, hj, rfl, rfl, hown, hbel, hblk⟩ := hrel
          have HOwn := Lib.hid hown
          have HBel := Lib.hid hbel
          have HBlk := Lib.hid hblk
          by_cases hlt : j < avfl
          · have hne : (⟨bo, 2, none⟩ : Addr) ≠ ⟨bd, j, none⟩ := fun h => hl2 (congrArg Addr.block h).symm
            obtain ⟨y0, y1, y2, _⟩ := newTensor hblk
            have f2 := hown.cellAt j (by omega)
            have f3 := hown.frozenAt j
            rw [List.getElem?_map, T.gqTo_get g avfl j hlt, Option.map_some] at f2
            have gb := T.gsum_bound Q_G.out.wf j
            have gw := T.gq_wf Q_G.out.wf j
            have gv := getD8 Q_G.out.wf j
            have GS := Lib.hid (T.gsum_succ g j)
            have GL := Lib.hid Q_G.out.len_eq
            clear hown hbel hblk
            by_cases cg : j < gl
            · obtain ⟨pg, og, rfl, eg⟩ := (Q_G.out.below HBel.out).cells (by omega)
              have fg := eg j cg
              clear eg
              generalize hX : g.getD j 0 = x at *
              have HX := Lib.hid hX
              clear hX
              by_cases cx : x = -128
              · subst cx
                have hq : T.gq1 g j = 0 := by unfold T.gq1; rw [if_neg (fun h => h.2 HX.out)]
                have HQ := Lib.hid hq
                clear hq
                generalize hV : T.gsum g j = V at *
                have HV := Lib.hid hV
                clear hV
                have c1 : IntKind.i64.wrap (V + 0) = V := by rw [Int.add_zero]; exact IntWalk.i64_in _ (by omega)
                go_wp2_with fail
                go_roundw
                case rel =>
                  refine ⟨j + 1, by omega, by go_num, ?_, ?_, HBel.out, HBlk.out⟩
                  · rw [GS.out, HQ.out, Int.add_zero]
                  · rw [← T.gqTo_next g avfl j hlt HQ.out]; exact HOwn.out
                case measure => simp [intOf]; omega
              · have hq : T.gq1 g j = x := by unfold T.gq1; rw [if_pos ⟨by rw [GL.out]; exact cg, by rw [HX.out]; exact cx⟩, HX.out]
                have HQ := Lib.hid hq
                have HSt := Lib.hid (T.gqTo_set g avfl j hlt)
                clear hq
                generalize hV : T.gsum g j = V at *
                clear hV
                have c1 : IntKind.i64.wrap (V + x) = V + x := IntWalk.i64_in _ (by omega)
                have c2 : IntKind.i64.wrap x = x := IntWalk.i64_in _ (by omega)
                have c3 : (x != -128) = true := by simpa using cx
                have i1 : (0 : Int) ≤ (j : Int) := by omega
                have i2 : (j : Int) < (avfl : Int) := by omega
                have i4 : (j : Int) < (gl : Int) := by omega
                have own2 := ((HOwn.out.stored j (.int .i8 x)).1).drew
                have z0 := own2.cellAt j (by omega)
                rw [List.getElem?_set_self (by rw [List.length_map, T.length_gqTo]; exact hlt)] at z0
                have blk2 : ((wr.setCell ⟨bd, j, none⟩ (.int .i8 x)).drew).heap[bo]? = some (.cells #[.slice ava 4 avc, .int .i64 e, .slice (some ⟨bd, 0, none⟩) avfl avfl] 25 (0, 0)) := (Below.heap_setCell _ _ _ _ (fun e => hl2 e.symm)).trans HBlk.out
                have Own2 := Lib.hid own2
                have Blk2 := Lib.hid blk2
                have Z0 := Lib.hid z0
                have bel2 : Below w9.heap.size w9 ((wr.setCell ⟨bd, j, none⟩ (.int .i8 x)).drew) := (HBel.out.setCell (p := ⟨bd, j, none⟩) hs3 (.int .i8 x)).draws 1
                have Bel2 := Lib.hid bel2
                clear own2 blk2 z0 bel2
                go_wp2_with fail
                go_region
                obtain ⟨wz, hwz⟩ : ∃ wz : World, wz = (wr.setCell ⟨bd, j, none⟩ (.int .i8 x)).drew := ⟨_, rfl⟩
                rw [← hwz] at Own2 Blk2 Z0 Bel2 ⊢
                clear y0 y1 y2 f2 f3 hwz
                have z0 := Z0.out
                obtain ⟨y0, y1, y2, _⟩ := newTensor Blk2.out
                go_wp2_with fail
                go_roundw
                case rel =>
                  refine ⟨j + 1, by omega, by go_num, ?_, ?_, Bel2.out, Blk2.out⟩
                  · rw [GS.out, HQ.out]
                  · have := Own2.out
                    rw [← List.map_set, ← HQ.out, HSt.out] at this
                    exact this
                case measure => simp [intOf]; omega
            · have hq : T.gq1 g j = 0 := by unfold T.gq1; rw [if_neg (fun h => cg (by rw [← GL.out]; exact h.1))]
              have HQ := Lib.hid hq
              clear hq
              generalize hV : T.gsum g j = V at *
              clear hV
              have c1 : IntKind.i64.wrap (V + 0) = V := by rw [Int.add_zero]; exact IntWalk.i64_in _ (by omega)
              go_wp2_with fail
              go_roundw
              case rel =>
                refine ⟨j + 1, by omega, by go_num, ?_, ?_, HBel.out, HBlk.out⟩
                · rw [GS.out, HQ.out, Int.add_zero]
                · rw [← T.gqTo_next g avfl j hlt HQ.out]; exact HOwn.out
              case measure => simp [intOf]; omega
          · obtain rfl : avfl = j := by omega
            have ho9 := HOwn.out
            rw [T.gqTo_all] at ho9
            have hwf : ∀ x ∈ T.gq g avfl, (Lit.int .i8 x).wf = true := fun x hx => by
              obtain ⟨i, _, rfl⟩ := List.mem_map.1 hx
              have := T.gq_wf Q_G.out.wf i
              simp [Lit.wf, IntKind.min, IntKind.max, IntKind.signed, IntKind.bits]
              omega
            have F_Q := Lib.hid (RowAt.owned ho9 hwf tle)
            have N_X := Lib.hid (blk_below P_X.out HBel.out)
            have F_D := Lib.hid (Q_D.out.below HBel.out)
            have F_TD := Lib.hid (Q_TD.out.below HBel.out)
            have F_TF := Lib.hid (Q_TF.out.below HBel.out)
            have BB9 := Lib.hid (BB2.out.step HBel.out)
            obtain ⟨b1, b2, b3, b4⟩ := T.back_law HT.out HO.out (g := g) Q_G.out.wf
            rw [HC.out] at b1 b2 b3 b4
            rw [HLen.out] at b2
            have gb := T.gsum_bound Q_G.out.wf avfl
            have M := maxBack_gen ava 4 avc (T.outDims d kn s) e (some ⟨bd, 0, none⟩) avfl avfl (T.gq g avfl) avfa avfl avfc (T.topOf d z kn s) (some ⟨pd, od, none⟩) 4 c d wr F_TD.out F_Q.out F_TF.out F_D.out
            rw [b1] at M
            generalize T.bDims (T.outDims d kn s) e (T.gq g avfl) (T.topOf d z kn s) d = ds2 at M
            generalize T.bExp (T.outDims d kn s) e (T.gq g avfl) (T.topOf d z kn s) d = es2 at M
            generalize T.bData (T.outDims d kn s) e (T.gq g avfl) (T.topOf d z kn s) d = BD at *
            unfold tensor at M
            have HM := Lib.hid M
            have HB2 := Lib.hid b2
            have HB3 := Lib.hid b3
            have HB4 := Lib.hid b4
            obtain ⟨x0, x1, x2, _⟩ := newTensor N_X.out
            obtain ⟨y0, y1, y2, _⟩ := newTensor HBlk.out
            clear hown hbel hblk ho9 hwf M b1 b2 b3 b4 HOwn HBel HBlk P_X P_T Q_D Q_X Q_G Q_TD Q_TF BB2 HO5 HD5 HB5 F_Q F_TD F_TF
            go_wp2_with fail
            refine HM.out.mono ?_
            rintro r_ wD ⟨bva, bvl, bvc, bvb, bvm, bvk, rfl, td, tz, hb⟩
            obtain rfl : m = bvm := by rw [← tz.len_eq, HB2.out]
            have bt := below_alloc wD (Obj.cells #[.slice bva bvl bvc, .int .i64 es2, .slice bvb m bvk] 33)
            have N_B := Lib.hid (tensor_cells wD bva bvl bvc es2 bvb m bvk 33)
            have F_B := Lib.hid (tz.below bt)
            have N_X2 := Lib.hid (blk_below N_X.out (hb.step bt))
            replace BB9 := Lib.hid (BB9.out.step (hb.step bt))
            have d4 : ((m : Int) != (m : Int)) = false := by simp
            clear x0 x1 x2 y0 y1 y2 td tz hb bt HM F_D
            unfold tensor
            obtain ⟨x0, x1, x2, _⟩ := newTensor N_X2.out
            obtain ⟨y0, y1, y2, _⟩ := newTensor N_B.out
            go_wp2_with fail
            clear x0 x1 x2 y0 y1 y2
            obtain ⟨u9, hu9⟩ : ∃ u9 : World, wD.alloc (Obj.cells #[.slice bva bvl bvc, .int .i64 es2, .slice bvb m bvk] 33) = u9 := ⟨_, rfl⟩
            obtain ⟨g9, hg9⟩ : ∃ g9 : Nat, wD.heap.size = g9 := ⟨_, rfl⟩
            rw [hu9] at F_B BB9 ⊢
            try rw [hg9]
            clear hu9 hg9 N_B N_X2 N_X
            generalize T.gsum g avfl = GS at *
            go_loop [22, 256] (fun sv i => ∃ j : Nat, j ≤ m ∧ i = .int .i64 j ∧ sv = .int .i64 (GS - (BD.take j).sum)) (fun _ i => m - (intOf i).toNat)
            case atStart => exact ⟨0, Nat.zero_le _, rfl, by simp⟩
            case round =>
              obtain ⟨j, hj, rfl, rfl⟩ := hrel
              have tb := T.sum_take_bound 1048576 (by omega) HB4.out j (by rw [HB2.out]; exact hj)
              by_cases hlt : j < m
              · obtain ⟨_, _, rfl, e0⟩ := F_B.out.cells (by omega)
                have f0 := e0 j hlt
                have hsum := T.sum_take_succ (L := BD) (j := j) (by rw [HB2.out]; exact hlt)
                have yb := HB4.out j
                generalize BD.getD j 0 = y at *
                generalize (BD.take j).sum = S at *
                have HSum := Lib.hid hsum
                obtain ⟨V, hV⟩ : ∃ V : Int, GS - S = V := ⟨_, rfl⟩
                rw [hV]
                have HV := Lib.hid hV
                have c1 : IntKind.i64.wrap (V - y) = V - y := IntWalk.i64_in _ (by omega)
                have c2 : IntKind.i64.wrap y = y := IntWalk.i64_in _ (by omega)
                clear e0 hsum hV
                go_wp2_with fail
                go_round
                case rel => exact ⟨j + 1, by omega, by go_num, by rw [HSum.out, ← HV.out]; congr 1; omega⟩
                case measure => simp [intOf]; omega
              · obtain rfl : m = j := by omega
                have hall : GS - (BD.take m).sum = 0 := by
                  have : BD.take m = BD := by rw [← HB2.out]; exact List.take_length
                  rw [this, HB3.out]
                  omega
                rw [hall]
                go_wp2_with fail
                refine (awakeP_any _).mono ?_
                rintro e1 w4 ⟨rfl, hb4⟩
                go_wp2
                go_ret
                exact ⟨rfl, BB9.out.step hb4⟩
end Go.Proofs.Ytaijiihlkcbdhaa
