/-
  The walk of the law PoolAvg.
-/
import Derived.Test.YtaijiihlkcbdhaaPoolAvgPlain2
import Derived.Test.YtaijiihlkcbdhaaTOut
import Derived.Deep.DeepCutAuto
namespace Go.Proofs.Ytaijiihlkcbdhaa
open Go.RowKit
set_option linter.unusedVariables false
attribute [local go_sem ↓] Go.wp_at_zero Go.wp_at_succ
namespace T
/-- A row that is being filled with one number. -/
def fillTo (c : Int) (n j : Nat) : List Int := (List.range n).map (fun i => if i < j then c else 0)
theorem length_fillTo (c : Int) (n j : Nat) : (fillTo c n j).length = n := by simp [fillTo]
theorem made_zeros (n : Nat) : (madeCells #[Value.int IntKind.i8 0] n).toList = (List.replicate n (0 : Int)).map (Value.int .i8) := by
  rw [toList_madeCells_one]
  simp
theorem fillTo_zero (c : Int) (n : Nat) : fillTo c n 0 = List.replicate n 0 := by
  apply List.ext_getElem
  · simp [fillTo]
  · intro i h1 h2
    simp [fillTo]
theorem fillTo_all (c : Int) (n : Nat) : fillTo c n n = List.replicate n c := by
  apply List.ext_getElem
  · simp [fillTo]
  · intro i h1 h2
    simp [fillTo] at h1
    simp [fillTo, h1]
theorem fillTo_set (c : Int) (n k : Nat) : (fillTo c n k).set k c = fillTo c n (k + 1) := by
  apply List.ext_getElem
  · simp [fillTo]
  · intro i h1 h2
    rw [List.getElem_set]
    by_cases h : k = i
    · subst h; simp [fillTo]
    · have : (i < k + 1) = (i < k) := by
        apply propext; omega
      simp [fillTo, h, this]
end T
/-- A square plane of noughts, just made. -/
theorem sq_made (w : World) (n m : Nat) (hn : n ≤ 8) (hm : m ≤ 140737488351232) :
    (((w.alloc (Obj.cells #[Value.int IntKind.i64 1, Value.int IntKind.i64 1, Value.int IntKind.i64 n, Value.int IntKind.i64 n] 3)).alloc (Obj.cells (madeCells #[Value.int IntKind.i8 0] m) 37)).alloc (Obj.cells #[.slice (some ⟨w.heap.size, 0, none⟩) 4 4, .int .i64 0, .slice (some ⟨w.heap.size + 1, 0, none⟩) m m] 25)).ownsRow w.heap.size 37 1 (.slice (some ⟨w.heap.size + 1, 0, none⟩) m m) m ((List.replicate m (0 : Int)).map (Value.int .i8)) ∧
    RowAt .i64 (((w.alloc (Obj.cells #[Value.int IntKind.i64 1, Value.int IntKind.i64 1, Value.int IntKind.i64 n, Value.int IntKind.i64 n] 3)).alloc (Obj.cells (madeCells #[Value.int IntKind.i8 0] m) 37)).alloc (Obj.cells #[.slice (some ⟨w.heap.size, 0, none⟩) 4 4, .int .i64 0, .slice (some ⟨w.heap.size + 1, 0, none⟩) m m] 25)) (some ⟨w.heap.size, 0, none⟩) 4 (T.sq n) ∧
    (((w.alloc (Obj.cells #[Value.int IntKind.i64 1, Value.int IntKind.i64 1, Value.int IntKind.i64 n, Value.int IntKind.i64 n] 3)).alloc (Obj.cells (madeCells #[Value.int IntKind.i8 0] m) 37)).alloc (Obj.cells #[.slice (some ⟨w.heap.size, 0, none⟩) 4 4, .int .i64 0, .slice (some ⟨w.heap.size + 1, 0, none⟩) m m] 25)).heap[w.heap.size + 1 + 1]? = some (.cells #[.slice (some ⟨w.heap.size, 0, none⟩) 4 4, .int .i64 0, .slice (some ⟨w.heap.size + 1, 0, none⟩) m m] 25 (0, 0)) ∧
    Below w.heap.size w (((w.alloc (Obj.cells #[Value.int IntKind.i64 1, Value.int IntKind.i64 1, Value.int IntKind.i64 n, Value.int IntKind.i64 n] 3)).alloc (Obj.cells (madeCells #[Value.int IntKind.i8 0] m) 37)).alloc (Obj.cells #[.slice (some ⟨w.heap.size, 0, none⟩) 4 4, .int .i64 0, .slice (some ⟨w.heap.size + 1, 0, none⟩) m m] 25)) := by
  have hr : RowAt .i64 (w.alloc (Obj.cells #[Value.int IntKind.i64 1, Value.int IntKind.i64 1, Value.int IntKind.i64 n, Value.int IntKind.i64 n] 3)) (some ⟨w.heap.size, 0, none⟩) 4 (T.sq n) := RowAt.new w .i64 3 (0, 0) (T.sq n) (fun z hz => by
    simp only [T.sq, List.mem_cons, List.not_mem_nil, or_false] at hz
    simp [Lit.wf, IntKind.min, IntKind.max, IntKind.signed, IntKind.bits]
    omega) (by simp [T.sq])
  have hb := below_alloc w (Obj.cells #[Value.int IntKind.i64 1, Value.int IntKind.i64 1, Value.int IntKind.i64 n, Value.int IntKind.i64 n] 3)
  have hz := World.size_alloc w (Obj.cells #[Value.int IntKind.i64 1, Value.int IntKind.i64 1, Value.int IntKind.i64 n, Value.int IntKind.i64 n] 3)
  generalize w.alloc (Obj.cells #[Value.int IntKind.i64 1, Value.int IntKind.i64 1, Value.int IntKind.i64 n, Value.int IntKind.i64 n] 3) = w1 at *
  have h := World.ownsRow_lit (base := w.heap.size) (e := 37) (size := 1) w1 (madeCells #[Value.int IntKind.i8 0] m) m (by omega) (by unfold maxLen; omega) (by rw [size_madeCells]; omega)
  rw [T.made_zeros, hz] at h
  have hb1 := below_alloc w1 (Obj.cells (madeCells #[Value.int IntKind.i8 0] m) 37)
  have hz1 := World.size_alloc w1 (Obj.cells (madeCells #[Value.int IntKind.i8 0] m) 37)
  generalize w1.alloc (Obj.cells (madeCells #[Value.int IntKind.i8 0] m) 37) = w2 at *
  have hb2 := below_alloc w2 (Obj.cells #[.slice (some ⟨w.heap.size, 0, none⟩) 4 4, .int .i64 0, .slice (some ⟨w.heap.size + 1, 0, none⟩) m m] 25)
  have hn2 := heap_alloc_new w2 (Obj.cells #[.slice (some ⟨w.heap.size, 0, none⟩) 4 4, .int .i64 0, .slice (some ⟨w.heap.size + 1, 0, none⟩) m m] 25)
  rw [hz1, hz] at hn2
  exact ⟨h.alloc _, (hr.below hb1).below hb2, hn2, (hb.step hb1).step hb2⟩
/-- The row that tells how much less a mean's exponent is. -/
theorem less_index (K : Int) (h0 : 0 ≤ K) (h5 : K ≤ 5) (w : World) : (Instr.index 47 (.agg #[.int .i64 0, .int .i64 0, .int .i64 2, .int .i64 2, .int .i64 4, .int .i64 4]) (.int .i64 K)).run Try.prog w = .ok (.int .i64 (K / 2 * 2)) w := by
  have h : K = 0 ∨ K = 1 ∨ K = 2 ∨ K = 3 ∨ K = 4 ∨ K = 5 := by omega
  rcases h with rfl | rfl | rfl | rfl | rfl | rfl <;> simp [Instr.index, run_underlying Try.underlying47, asIntOf, go_sem]
theorem outW_nonneg (n k s p : Int) : 0 ≤ outW n k s p := by
  by_cases h : outW n k s p = 0
  · omega
  · obtain ⟨X, _, _, _, _, _, _, _, _, h1, _⟩ := outW_fits rfl h
    omega
set_option maxRecDepth 100000 in
set_option maxHeartbeats 4000000 in
theorem avgLaw_any (a0 a1 a2 a3 a4 : Int) (w : World) (w0 : (Lit.int .i8 a0).wf = true) :
    Calls Try.prog 6 #[.int .i8 a0, .int .i64 a1, .int .i64 a2, .int .i64 a3, .int .i64 a4] w (GivesV (.bool true) w) := by
  obtain ⟨t1, ht1, hu1⟩ := umod_const a1 8 (by decide)
  obtain ⟨t2, ht2, hu2⟩ := umod_const a2 5 (by decide)
  obtain ⟨t3, ht3, hu3⟩ := umod_const a3 4 (by decide)
  have hc0 := wf8 w0
  have HO := Lib.hid (fun n k s p w => refOut_any n k s p w)
  go_enter Try.func6, Try.ntmps6
  go_upto_region 2 with fail
  go_cut [0] (fun v wx => ∃ c : Int, v = .int .i8 c ∧ -127 ≤ c ∧ c ≤ 127 ∧ wx = w)
  case first =>
    go_wp2_with fail
    all_goals
      go_meet
      case rel => exact ⟨_, rfl, by omega, by omega, rfl⟩
  case rest =>
    obtain ⟨c, rfl, c1, c2, rfl⟩ := hcut
    obtain ⟨h, hh⟩ : ∃ h : Nat, 1 + (t1 : Int) = h := ⟨1 + t1, by push_cast; rfl⟩
    obtain ⟨k, hk⟩ : ∃ k : Nat, 1 + (t2 : Int) = k := ⟨1 + t2, by push_cast; rfl⟩
    obtain ⟨s, hs⟩ : ∃ s : Int, 1 + (t3 : Int) = s := ⟨_, rfl⟩
    have h1 : 1 ≤ h := by omega
    have h2 : h ≤ 8 := by omega
    go_wp2_with fail
    rw [hh, hk, hs]
    clear hu1 hu2 hu3 hh hk hs ht1 ht2 ht3
    refine (HO.out h k s 0 _).mono ?_
    rintro e wx ⟨rfl, rfl⟩
    obtain ⟨o, ho⟩ : ∃ o : Nat, outW h k s 0 = o := ⟨(outW h k s 0).toNat, by have := outW_nonneg (h : Int) k s 0; omega⟩
    rw [ho]
    by_cases o0 : o = 0
    · subst o0
      go_wp2_with fail
      refine (awakeP_any _).mono ?_
      rintro e1 w4 ⟨rfl, hb4⟩
      go_wp2
      go_ret
      exact ⟨rfl, hb4⟩
    · obtain ⟨_, _, kb1, kb2, sb1, sb2, oh, _⟩ := outW_fit (show 1 ≤ outW (h : Int) k s 0 by omega)
      rw [ho] at oh
      have o1 : 0 < o := by omega
      have o2 : o ≤ 8 := by omega
      have HOut := Lib.hid ho
      clear ho HO oh
      obtain ⟨hq, ehq⟩ : ∃ n : Nat, h * h = n := ⟨_, rfl⟩
      have hq1 : hq ≤ 64 := by rw [← ehq]; exact Nat.mul_le_mul h2 h2
      have m1 : IntKind.i64.wrap ((h : Int) * h) = hq := by rw [← Int.natCast_mul, ehq]; exact IntWalk.i64_in _ (by omega)
      have HEq := Lib.hid ehq
      have hmk := fun w : World => run_make_row' (P := Try.prog) 23 37 (.int .i8 0) 1 Try.underlying23 infoI8 rfl .i64 .i64 hq (by omega) (by omega) w
      clear ehq
      go_wp2_with fail
      obtain ⟨S1, S2, S3, S4⟩ := sq_made wc h hq h2 (by omega)
      have HS1 := Lib.hid S1
      have HS2 := Lib.hid S2
      have HS3 := Lib.hid S3
      have HS4 := Lib.hid S4
      clear S1 S2 S3 S4 hmk
      obtain ⟨wo, hwo⟩ : ∃ wo : World, ((wc.alloc (Obj.cells #[Value.int IntKind.i64 1, Value.int IntKind.i64 1, Value.int IntKind.i64 h, Value.int IntKind.i64 h] 3)).alloc (Obj.cells (madeCells #[Value.int IntKind.i8 0] hq) 37)).alloc (Obj.cells #[.slice (some ⟨wc.heap.size, 0, none⟩) 4 4, .int .i64 0, .slice (some ⟨wc.heap.size + 1, 0, none⟩) hq hq] 25) = wo := ⟨_, rfl⟩
      rw [hwo] at HS1 HS2 HS3 HS4 ⊢
      clear hwo
      go_loopw [61] (fun i wr => ∃ j : Nat, j ≤ hq ∧ i = .int .i64 j ∧ wr.ownsRow wc.heap.size 37 1 (.slice (some ⟨wc.heap.size + 1, 0, none⟩) hq hq) hq ((T.fillTo c hq j).map (Value.int .i8)) ∧ Below wc.heap.size wc wr ∧ RowAt .i64 wr (some ⟨wc.heap.size, 0, none⟩) 4 (T.sq h) ∧ wr.heap[wc.heap.size + 1 + 1]? = some (.cells #[.slice (some ⟨wc.heap.size, 0, none⟩) 4 4, .int .i64 0, .slice (some ⟨wc.heap.size + 1, 0, none⟩) hq hq] 25 (0, 0))) (fun i _ => hq - (intOf i).toNat)
      case atStart => exact ⟨0, Nat.zero_le _, rfl, by rw [T.fillTo_zero]; exact HS1.out, HS4.out, HS2.out, HS3.out⟩
      case round =>
        obtain ⟨j, hj, rfl, hown, hbel, hrow, hblk⟩ := hrel
        have HOwn := Lib.hid hown
        have HBel := Lib.hid hbel
        have HRow := Lib.hid hrow
        have HBlk := Lib.hid hblk
        obtain ⟨x0, x1, x2, _⟩ := newTensor hblk
        by_cases hlt : j < hq
        · have f2 := hown.cellAt j (by omega)
          have f3 := hown.frozenAt j
          rw [List.getElem?_map, List.getElem?_eq_getElem (by rw [T.length_fillTo]; omega), Option.map_some] at f2
          generalize (T.fillTo c hq j)[j]'(by rw [T.length_fillTo]; omega) = x2v at f2
          clear hown hbel hrow hblk
          go_wp2_with fail
          go_roundw
          case rel =>
            refine ⟨j + 1, by omega, by go_num, ?_, HBel.out.setCell (by show wc.heap.size ≤ wc.heap.size + 1; omega) _, ?_, ?_⟩
            · have := (HOwn.out.stored j (.int .i8 c)).1
              rw [← List.map_set, T.fillTo_set] at this
              exact this
            · exact HRow.out.setCell _ (fun x hx => by cases hx; show wc.heap.size ≠ wc.heap.size + 1; omega)
            · exact (Below.heap_setCell _ _ _ _ (by show wc.heap.size + 1 + 1 ≠ wc.heap.size + 1; omega)).trans HBlk.out
          case measure => simp [intOf]; omega
        · obtain rfl : hq = j := by omega
          have ho9 := HOwn.out
          rw [T.fillTo_all] at ho9
          have F_Z := Lib.hid (RowAt.owned ho9 (fun x hx => by rw [(List.mem_replicate.1 hx).2]; simp [Lit.wf, IntKind.min, IntKind.max, IntKind.signed, IntKind.bits]; omega) (by omega))
          obtain ⟨v1, v2, v3, v4⟩ := T.avg_sq HOut.out o1 h1 h2 c1
          rw [HEq.out] at v1 v3 v4
          have M := avg_gen (some ⟨wc.heap.size, 0, none⟩) 4 4 (T.sq h) 0 (some ⟨wc.heap.size + 1, 0, none⟩) hq hq (List.replicate hq c) k s wr HRow.out F_Z.out
          have herr : T.err (T.sq h) 0 (List.replicate hq c) k s = 0 := T.err_of v1 v2
          have g1 : T.gLess (T.sq h) 0 (List.replicate hq c) k s = 0 - (k : Int) / 2 * 2 := by unfold T.gLess; rw [if_pos herr]
          have g2 : T.gSum (T.sq h) 0 (List.replicate hq c) k s = T.sumOf (T.sq h) (List.replicate hq c) k s := by unfold T.gSum; rw [if_pos herr]
          rw [g1, g2, herr] at M
          generalize T.gDims (T.sq h) 0 (List.replicate hq c) k s = ds at M
          obtain ⟨E, hE⟩ : ∃ E : Int, 0 - (k : Int) / 2 * 2 = E := ⟨_, rfl⟩
          rw [hE] at M
          unfold tensor at M
          have HE := Lib.hid hE
          have HV3 := Lib.hid v3
          have HV4 := Lib.hid v4
          generalize T.sumOf (T.sq h) (List.replicate hq c) k s = SU at *
          have HM := Lib.hid M
          clear hown hbel hrow hblk ho9 v1 v2 v3 v4 g1 g2 herr hE M HS1 HS2 HS3 HS4 HOwn
          obtain ⟨w9, rfl⟩ : ∃ w9 : World, w9 = wr := ⟨_, rfl⟩
          go_wp2_with fail
          refine HM.out.mono ?_
          rintro r_ wB ⟨bva, bvl, bvc, bvb, bvm, bvk, rfl, td, tz, hb⟩
          obtain ⟨oq, hoq⟩ : ∃ n : Nat, o * o = n := ⟨_, rfl⟩
          obtain rfl : oq = bvm := by rw [← tz.len_eq, HV3.out, hoq]
          have bt := below_alloc wB (Obj.cells #[.slice bva bvl bvc, .int .i64 E, .slice bvb oq bvk] 33)
          have bb := hb.step bt
          have N_B := Lib.hid (tensor_cells wB bva bvl bvc E bvb oq bvk 33)
          have N_X := Lib.hid (blk_below HBlk.out bb)
          have F_D := Lib.hid (HRow.out.below bb)
          have F_B := Lib.hid (tz.below bt)
          have BB := Lib.hid (HBel.out.step bb)
          have oq1 : oq ≤ 64 := by rw [← hoq]; exact Nat.mul_le_mul o2 o2
          have oq0 : 0 < oq := by rw [← hoq]; exact Nat.mul_pos o1 o1
          have m2 : IntKind.i64.wrap ((o : Int) * o) = oq := by rw [← Int.natCast_mul, hoq]; exact IntWalk.i64_in _ (by omega)
          have HOq := Lib.hid hoq
          clear x0 x1 x2 td tz hb bt bb hoq HM HBlk HRow HBel F_Z
          unfold tensor
          go_upto_region 13 with fail
          obtain ⟨uB, huB⟩ : ∃ uB, wB.alloc (Obj.cells #[.slice bva bvl bvc, .int .i64 E, .slice bvb oq bvk] 33) = uB := ⟨_, rfl⟩
          obtain ⟨gB, hgB⟩ : ∃ gB, wB.heap.size = gB := ⟨_, rfl⟩
          rw [huB] at N_B N_X F_D F_B BB ⊢
          rw [hgB] at N_B ⊢
          clear huB hgB
          obtain ⟨y0, y1, y2, _⟩ := newTensor N_B.out
          go_cut [96] (fun v wx => v = .bool false ∧ ∃ n, wx = uB.drewN n)
          case first =>
            have d1 : ((oq : Int) != (oq : Int)) = false := by simp
            have hE := HE.out
            have hix := less_index k (by omega) (by omega)
            have hk9 : IntKind.i64.wrap (-((k : Int) / 2 * 2)) = E := by rw [← hE, Int.zero_sub]; exact IntWalk.i64_in _ (by omega)
            have d2 : (E != E) = false := by simp
            generalize (k : Int) / 2 * 2 = KL at *
            clear hE
            go_quiet (fail)
            go_wp2_with fail
            go_meet
            case rel => exact ⟨rfl, _, rfl⟩
          case rest =>
            obtain ⟨rfl, q0, rfl⟩ := hcut
            obtain ⟨w8, hw8⟩ : ∃ w8 : World, w8 = uB.drewN q0 := ⟨_, rfl⟩
            have hbq := hw8 ▸ below_drewN uB q0
            replace N_B := Lib.hid (blk_below N_B.out hbq)
            replace N_X := Lib.hid (blk_below N_X.out hbq)
            replace F_D := Lib.hid (F_D.out.below hbq)
            replace F_B := Lib.hid (F_B.out.below hbq)
            replace BB := Lib.hid (BB.out.step hbq)
            rw [← hw8]
            clear y0 y1 y2 hw8 hbq HE
            obtain ⟨y0, y1, y2, _⟩ := newTensor N_B.out
            go_wp2_with fail
            clear y0 y1 y2
            obtain ⟨kk, hkk⟩ : ∃ n : Nat, k * k = n := ⟨_, rfl⟩
            have kk1 : kk ≤ 25 := by rw [← hkk]; exact Nat.mul_le_mul (show k ≤ 5 by omega) (show k ≤ 5 by omega)
            have m3 : IntKind.i64.wrap ((k : Int) * k) = kk := by rw [← Int.natCast_mul, hkk]; exact IntWalk.i64_in _ (by omega)
            have m4 : IntKind.i32.wrap (kk : Int) = kk := IntWalk.i32_in _ (by omega)
            have m5 : IntKind.i32.wrap c = c := IntWalk.i32_in _ (by omega)
            obtain ⟨V, hV⟩ : ∃ V : Int, c * (kk : Int) = V := ⟨_, rfl⟩
            have m6 : IntKind.i32.wrap (c * (kk : Int)) = V := by
              have b1 := Int.mul_le_mul_of_nonneg_right c1 (show 0 ≤ (kk : Int) by omega)
              have b2 := Int.mul_le_mul_of_nonneg_right c2 (show 0 ≤ (kk : Int) by omega)
              rw [← hV]
              exact IntWalk.i32_in _ (by omega)
            rw [hkk, hV] at HV4
            clear hV
            have HKK := Lib.hid hkk
            clear hkk
            go_loop [100] (fun i => ∃ j : Nat, j ≤ oq ∧ i = .int .i64 j) (fun i => oq - (intOf i).toNat)
            case atStart => exact ⟨0, Nat.zero_le _, rfl⟩
            case round =>
              obtain ⟨j, hj, rfl⟩ := hrel
              by_cases hlt : j < oq
              · obtain ⟨_, _, rfl, e0⟩ := F_B.out.cells (by omega)
                have f0 := e0 j hlt
                rw [HV4.out j (by rw [HOq.out]; exact hlt)] at f0
                have d1 : (V != V) = false := by simp
                clear e0
                go_wp2_with fail
                go_round
                case rel => exact ⟨j + 1, by omega, by go_num⟩
                case measure => simp [intOf]; omega
              · obtain rfl : oq = j := by omega
                clear F_B HV3 HV4 m2 m6
                have m7 : IntKind.i64.wrap ((o : Int) * o) = oq := by rw [← Int.natCast_mul, HOq.out]; exact IntWalk.i64_in _ (by omega)
                have hmk := fun w : World => run_make_row' (P := Try.prog) 23 37 (.int .i8 0) 1 Try.underlying23 infoI8 rfl .i64 .i64 oq (by omega) (by omega) w
                obtain ⟨S1, S2, S3, S4⟩ := sq_made w8 o oq o2 (by omega)
                obtain ⟨t, ht, htu⟩ := umod_ex a4 oq oq0
                have m8 : IntKind.u64.wrap (oq : Int) = oq := IntWalk.u64_in _ ⟨by omega, by omega⟩
                have d3 : ((oq : Int) == 0) = false := by rw [beq_eq_false_iff_ne]; omega
                have HS1 := Lib.hid S1
                have HS2 := Lib.hid S2
                have HS3 := Lib.hid S3
                have HS4 := Lib.hid S4
                clear S1 S2 S3 S4
                go_upto_region 22 with fail
                obtain ⟨w7, hw7⟩ : ∃ w7 : World, ((w8.alloc (Obj.cells #[Value.int IntKind.i64 1, Value.int IntKind.i64 1, Value.int IntKind.i64 o, Value.int IntKind.i64 o] 3)).alloc (Obj.cells (madeCells #[Value.int IntKind.i8 0] oq) 37)).alloc (Obj.cells #[.slice (some ⟨w8.heap.size, 0, none⟩) 4 4, .int .i64 0, .slice (some ⟨w8.heap.size + 1, 0, none⟩) oq oq] 25) = w7 := ⟨_, rfl⟩
                rw [hw7] at HS1 HS2 HS3 HS4 ⊢
                clear hw7 hmk
                obtain ⟨x0, x1, x2, _⟩ := newTensor HS3.out
                have own2 := ((HS1.out.stored t (.int .i8 1)).1)
                have f2 := HS1.out.cellAt t (by omega)
                have f3 := HS1.out.frozenAt t
                rw [List.getElem?_map, List.getElem?_replicate, if_pos ht, Option.map_some] at f2
                rw [← List.map_set] at own2
                have hwf : ∀ x ∈ (List.replicate oq (0 : Int)).set t 1, (Lit.int .i8 x).wf = true := fun x hx => by
                  rcases List.mem_or_eq_of_mem_set hx with hx | rfl
                  · rw [(List.mem_replicate.1 hx).2]; rfl
                  · rfl
                have bel2 := HS4.out.setCell (p := ⟨w8.heap.size + 1, t, none⟩) (by show w8.heap.size ≤ w8.heap.size + 1; omega) (.int .i8 1)
                have blk2 := (Below.heap_setCell w7 ⟨w8.heap.size + 1, t, none⟩ (.int .i8 1) (w8.heap.size + 1 + 1) (by show w8.heap.size + 1 + 1 ≠ w8.heap.size + 1; omega)).trans HS3.out
                have row2 := HS2.out.setCell (p := ⟨w8.heap.size + 1, t, none⟩) (.int .i8 1) (fun x hx => by cases hx; show w8.heap.size ≠ w8.heap.size + 1; omega)
                have Own2 := Lib.hid (RowAt.owned own2 hwf (by omega))
                have Bel2 := Lib.hid bel2
                have Blk2 := Lib.hid blk2
                have Row2 := Lib.hid row2
                clear own2 hwf bel2 blk2 row2 HS1 HS2 HS3 HS4
                go_upto_region 24 with fail
                obtain ⟨w6, hw6⟩ : ∃ w6 : World, w7.setCell ⟨w8.heap.size + 1, t, none⟩ (.int .i8 1) = w6 := ⟨_, rfl⟩
                rw [hw6] at Own2 Bel2 Blk2 Row2 ⊢
                replace N_X := Lib.hid (blk_below N_X.out Bel2.out)
                replace F_D := Lib.hid (F_D.out.below Bel2.out)
                replace BB := Lib.hid (BB.out.step Bel2.out)
                clear hw6 x0 x1 x2 f2 f3
                obtain ⟨x0, x1, x2, _⟩ := newTensor N_X.out
                obtain ⟨y0, y1, y2, _⟩ := newTensor Blk2.out
                obtain ⟨b1, b2, b3, b4⟩ := T.back_sq (k := k) (a := t) HOut.out o1 h1 h2 o2 (by rw [HOq.out]; exact ht)
                have hun : T.unit o t = (List.replicate oq (0 : Int)).set t 1 := by unfold T.unit; rw [HOq.out]
                rw [hun] at b1 b2 b3 b4
                rw [HEq.out] at b2 b4
                rw [HKK.out] at b3
                have M := avgBack_gen (some ⟨w8.heap.size, 0, none⟩) 4 4 (T.sq o) 0 (some ⟨w8.heap.size + 1, 0, none⟩) oq oq ((List.replicate oq (0 : Int)).set t 1) (some ⟨wc.heap.size, 0, none⟩) 4 4 (T.sq h) k s w6 Row2.out Own2.out F_D.out
                rw [b1] at M
                generalize T.aDims (T.sq o) 0 ((List.replicate oq (0 : Int)).set t 1) (T.sq h) k s = ds2 at M
                generalize T.aExp (T.sq o) 0 ((List.replicate oq (0 : Int)).set t 1) (T.sq h) k s = es2 at M
                generalize T.aData (T.sq o) 0 ((List.replicate oq (0 : Int)).set t 1) (T.sq h) k s = BD at *
                unfold tensor at M
                have HM := Lib.hid M
                have HB2 := Lib.hid b2
                have HB3 := Lib.hid b3
                have HB4 := Lib.hid b4
                clear b1 b2 b3 b4 hun M Own2 Blk2 Row2 Bel2
                go_wp2_with fail
                refine HM.out.mono ?_
                rintro r_ wD ⟨bva, bvl, bvc, bvb, bvm, bvk, rfl, td, tz, hb⟩
                obtain rfl : hq = bvm := by rw [← tz.len_eq, HB2.out]
                have bt := below_alloc wD (Obj.cells #[.slice bva bvl bvc, .int .i64 es2, .slice bvb hq bvk] 33)
                have N_B := Lib.hid (tensor_cells wD bva bvl bvc es2 bvb hq bvk 33)
                have F_B := Lib.hid (tz.below bt)
                replace BB := Lib.hid (BB.out.step (hb.step bt))
                have d4 : ((hq : Int) != (hq : Int)) = false := by simp
                clear x0 x1 x2 y0 y1 y2 td tz hb bt HM N_X F_D
                unfold tensor
                obtain ⟨y0, y1, y2, _⟩ := newTensor N_B.out
                go_wp2_with fail
                clear y0 y1 y2
                obtain ⟨u9, hu9⟩ : ∃ u9 : World, wD.alloc (Obj.cells #[.slice bva bvl bvc, .int .i64 es2, .slice bvb hq bvk] 33) = u9 := ⟨_, rfl⟩
                obtain ⟨g9, hg9⟩ : ∃ g9 : Nat, wD.heap.size = g9 := ⟨_, rfl⟩
                rw [hu9] at F_B BB ⊢
                try rw [hg9]
                clear hu9 hg9 N_B
                go_loopw [21, 157] (fun sv i wr => ∃ (j q : Nat) (S : Int), j ≤ hq ∧ i = .int .i64 j ∧ sv = .int .i32 S ∧ S = (BD.take j).sum ∧ 0 ≤ S ∧ S ≤ j ∧ wr = u9.drewN q) (fun _ i _ => hq - (intOf i).toNat)
                case atStart => exact ⟨0, 0, 0, Nat.zero_le _, rfl, rfl, rfl, by omega, by omega, rfl⟩
                case round =>
                  obtain ⟨j, q, S, hj, rfl, rfl, hS, S0, S1, rfl⟩ := hrel
                  have HS := Lib.hid hS
                  clear hS
                  by_cases hlt : j < hq
                  · obtain ⟨_, _, rfl, e0⟩ := F_B.out.cells (by omega)
                    have f0 := e0 j hlt
                    have hy := HB4.out j hlt
                    have hsum := T.sum_take_succ (L := BD) (j := j) (by rw [HB2.out]; exact hlt)
                    generalize hY : BD.getD j 0 = y at *
                    rw [← HS.out] at hsum
                    have HSum := Lib.hid hsum
                    have jh0 : 0 ≤ (j : Int) / h := Int.ediv_nonneg (by omega) (by omega)
                    have jh1 : (j : Int) / h ≤ 64 := Int.le_trans (Int.ediv_le_self h (by omega)) (by omega)
                    have to0 : 0 ≤ (t : Int) / o := Int.ediv_nonneg (by omega) (by omega)
                    have to1 : (t : Int) / o ≤ 64 := Int.le_trans (Int.ediv_le_self o (by omega)) (by omega)
                    have jm0 := Int.emod_nonneg (j : Int) (show (h : Int) ≠ 0 by omega)
                    have jm1 := Int.emod_lt_of_pos (j : Int) (show 0 < (h : Int) by omega)
                    have tm0 := Int.emod_nonneg (t : Int) (show (o : Int) ≠ 0 by omega)
                    have tm1 := Int.emod_lt_of_pos (t : Int) (show 0 < (o : Int) by omega)
                    have ts0 := Int.mul_nonneg to0 (show 0 ≤ s by omega)
                    have ts1 := Int.mul_le_mul to1 sb2 (by omega) (by omega)
                    have us0 := Int.mul_nonneg tm0 (show 0 ≤ s by omega)
                    have us1 := Int.mul_le_mul (show (t : Int) % o ≤ 8 by omega) sb2 (by omega) (by omega)
                    rw [Int.natCast_ediv, Int.natCast_emod] at hy
                    obtain ⟨X, hX⟩ : ∃ X : Int, (j : Int) / h = X := ⟨_, rfl⟩
                    obtain ⟨T1, hT1⟩ : ∃ X : Int, (t : Int) / o = X := ⟨_, rfl⟩
                    obtain ⟨P1, hP1⟩ : ∃ X : Int, T1 * s = X := ⟨_, rfl⟩
                    obtain ⟨P2, hP2⟩ : ∃ X : Int, (t : Int) % o * s = X := ⟨_, rfl⟩
                    obtain ⟨M2, hM2⟩ : ∃ X : Int, (j : Int) % h = X := ⟨_, rfl⟩
                    rw [hX, hT1, hP1, hP2, hM2] at hy
                    rw [hX] at jh0 jh1
                    rw [hT1] at to0 to1 ts0 ts1
                    rw [hP1] at ts0 ts1
                    rw [hP2] at us0 us1
                    rw [hM2] at jm0 jm1
                    have n1 : IntKind.i64.wrap ((j : Int) / h) = X := by rw [hX]; exact IntWalk.i64_in _ (by omega)
                    have n2 : IntKind.i64.wrap ((t : Int) / o) = T1 := by rw [hT1]; exact IntWalk.i64_in _ (by omega)
                    have n3 : IntKind.i64.wrap (T1 * s) = P1 := by rw [hP1]; exact IntWalk.i64_in _ (by omega)
                    have n4 : IntKind.i64.wrap ((t : Int) % o * s) = P2 := by rw [hP2]; exact IntWalk.i64_in _ (by omega)
                    obtain ⟨r0, hr0⟩ : ∃ X' : Int, X - P1 = X' := ⟨_, rfl⟩
                    obtain ⟨q0', hq0⟩ : ∃ X' : Int, M2 - P2 = X' := ⟨_, rfl⟩
                    have n5 : IntKind.i64.wrap (X - P1) = r0 := by rw [hr0]; exact IntWalk.i64_in _ (by omega)
                    have n6 : IntKind.i64.wrap ((j : Int) % h - P2) = q0' := by rw [hM2, hq0]; exact IntWalk.i64_in _ (by omega)
                    rw [hr0, hq0] at hy
                    clear e0 hsum hX hT1 hP1 hP2 hM2 hr0 hq0 jh0 jh1 to0 to1 ts0 ts1 us0 us1 jm0 jm1 tm0 tm1 hY
                    have hcase : (r0 < 0 ∧ y = 0) ∨ (0 ≤ r0 ∧ (k : Int) ≤ r0 ∧ y = 0) ∨ (0 ≤ r0 ∧ r0 < k ∧ q0' < 0 ∧ y = 0) ∨ (0 ≤ r0 ∧ r0 < k ∧ 0 ≤ q0' ∧ (k : Int) ≤ q0' ∧ y = 0) ∨ (0 ≤ r0 ∧ r0 < k ∧ 0 ≤ q0' ∧ q0' < k ∧ y = 1) := by
                      by_cases e1 : (0 ≤ r0 ∧ r0 < k) ∧ (0 ≤ q0' ∧ q0' < k)
                      · rw [if_pos e1] at hy; omega
                      · rw [if_neg e1] at hy; omega
                    clear hy
                    rcases hcase with ⟨e1, rfl⟩ | ⟨e1, e2, rfl⟩ | ⟨e1, e2, e3, rfl⟩ | ⟨e1, e2, e3, e4, rfl⟩ | ⟨e1, e2, e3, e4, rfl⟩
                    · have c1' : decide (0 ≤ r0) = false := decide_eq_false (by omega)
                      have c5 : IntKind.i32.wrap (S + 0) = S := by rw [Int.add_zero]; exact IntWalk.i32_in _ (by omega)
                      go_wp2_with fail
                      go_quiet (fail)
                      go_wp2_with fail
                      go_roundw
                      case rel => exact ⟨j + 1, _, S, by omega, by go_num, rfl, by rw [HSum.out, Int.add_zero], by omega, by omega, rfl⟩
                      case measure => simp [intOf]; omega
                    · have c1' : decide (0 ≤ r0) = true := decide_eq_true (by omega)
                      have c2' : decide (r0 < (k : Int)) = false := decide_eq_false (by omega)
                      have c5 : IntKind.i32.wrap (S + 0) = S := by rw [Int.add_zero]; exact IntWalk.i32_in _ (by omega)
                      go_wp2_with fail
                      go_quiet (fail)
                      go_wp2_with fail
                      go_roundw
                      case rel => exact ⟨j + 1, _, S, by omega, by go_num, rfl, by rw [HSum.out, Int.add_zero], by omega, by omega, rfl⟩
                      case measure => simp [intOf]; omega
                    · have c1' : decide (0 ≤ r0) = true := decide_eq_true (by omega)
                      have c2' : decide (r0 < (k : Int)) = true := decide_eq_true (by omega)
                      have c3' : decide (0 ≤ q0') = false := decide_eq_false (by omega)
                      have c5 : IntKind.i32.wrap (S + 0) = S := by rw [Int.add_zero]; exact IntWalk.i32_in _ (by omega)
                      go_wp2_with fail
                      go_quiet (fail)
                      go_wp2_with fail
                      go_roundw
                      case rel => exact ⟨j + 1, _, S, by omega, by go_num, rfl, by rw [HSum.out, Int.add_zero], by omega, by omega, rfl⟩
                      case measure => simp [intOf]; omega
                    · have c1' : decide (0 ≤ r0) = true := decide_eq_true (by omega)
                      have c2' : decide (r0 < (k : Int)) = true := decide_eq_true (by omega)
                      have c3' : decide (0 ≤ q0') = true := decide_eq_true (by omega)
                      have c4' : decide (q0' < (k : Int)) = false := decide_eq_false (by omega)
                      have c5 : IntKind.i32.wrap (S + 0) = S := by rw [Int.add_zero]; exact IntWalk.i32_in _ (by omega)
                      go_wp2_with fail
                      go_quiet (fail)
                      go_wp2_with fail
                      go_roundw
                      case rel => exact ⟨j + 1, _, S, by omega, by go_num, rfl, by rw [HSum.out, Int.add_zero], by omega, by omega, rfl⟩
                      case measure => simp [intOf]; omega
                    · have c1' : decide (0 ≤ r0) = true := decide_eq_true (by omega)
                      have c2' : decide (r0 < (k : Int)) = true := decide_eq_true (by omega)
                      have c3' : decide (0 ≤ q0') = true := decide_eq_true (by omega)
                      have c4' : decide (q0' < (k : Int)) = true := decide_eq_true (by omega)
                      have c5 : IntKind.i32.wrap (S + 1) = S + 1 := IntWalk.i32_in _ (by omega)
                      go_wp2_with fail
                      go_quiet (fail)
                      go_wp2_with fail
                      go_roundw
                      case rel => exact ⟨j + 1, _, S + 1, by omega, by go_num, rfl, HSum.out.symm, by omega, by omega, rfl⟩
                      case measure => simp [intOf]; omega
                  · obtain rfl : hq = j := by omega
                    have hall : S = kk := by rw [HS.out, ← HB2.out, List.take_length]; exact HB3.out
                    subst hall
                    have d5 : ((kk : Int) == (kk : Int)) = true := by simp
                    go_wp2_with fail
                    refine (awakeP_any _).mono ?_
                    rintro e1 w4 ⟨rfl, hb4⟩
                    go_wp2
                    go_ret
                    exact ⟨rfl, (BB.out.draws q).step hb4⟩
end Go.Proofs.Ytaijiihlkcbdhaa
