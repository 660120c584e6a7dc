/-
  The walk of the law PoolMax, where there is no greatest, or too much.
-/
import Derived.Test.YtaijiihlkcbdhaaPoolMaxPlain2
import Derived.Test.YtaijiihlkcbdhaaTOut
namespace Go.Proofs.Ytaijiihlkcbdhaa
open Go.RowKit
set_option linter.unusedVariables false
attribute [local go_sem ↓] Go.wp_at_zero Go.wp_at_succ
set_option maxRecDepth 100000 in
set_option maxHeartbeats 4000000 in
theorem poolMax_bad (a : Option Addr) (l c : Nat) (d : List Int) (e : Int) (b : Option Addr) (m k0 : Nat) (z : List Int) (k s : Int) (ga : Option Addr) (gl gc : Nat) (w : World) (h0 : RowAt .i64 w a l d) (h1 : RowAt .i8 w b m z) (hbad : ¬ (T.err d e z k s = 0 ∧ m ≤ 2000)) :
    Calls Try.prog 5 #[tensor a l c e b m k0, .int .i64 k, .int .i64 s, .slice ga gl gc] w (GivesV (.bool true) w) := by
  have hmm := h1.len_le
  have B1 := Lib.hid (below_alloc w (Obj.cells #[.slice a l c, .int .i64 e, .slice b m k0] 25))
  have HN := Lib.hid (tensor_cells w a l c e b m k0 25)
  have H0 := Lib.hid (h0.below B1.out)
  have H1 := Lib.hid (h1.below B1.out)
  have M := max_gen a l c d e b m k0 z k s _ H0.out H1.out
  obtain ⟨E, hE⟩ : ∃ E, T.err d e z k s = E := ⟨_, rfl⟩
  have HTop := Lib.hid (show E ≠ 0 → T.gTop d e z k s = [] from fun h => by unfold T.gTop; rw [if_neg (by rw [hE]; exact h)])
  rw [hE] at M hbad
  generalize T.gTop d e z k s = fs at *
  generalize T.gMax d e z k s = zs at *
  generalize T.gDims d e z k s = ds at *
  generalize T.gExp d e z k s = es at *
  have HM := Lib.hid M
  have HBad := Lib.hid hbad
  clear h0 h1 hbad M hE
  unfold tensor
  unfold tensor at HM
  go_enter Try.func5, Try.ntmps5
  go_wp2_with fail
  refine HM.out.mono ?_
  rintro r_ wA ⟨ava, avl, avc, avb, avm, avk, avfa, avfl, avfc, rfl, td, tz, tf, hb⟩
  have bt := below_alloc wA (Obj.cells #[.slice ava avl avc, .int .i64 es, .slice avb avm avk] 25)
  have bb := hb.step bt
  have HNA := Lib.hid (blk_below HN.out bb)
  have BA := Lib.hid (B1.out.step bb)
  have HF := Lib.hid tf.len_eq
  clear HM td tz tf hb HN
  unfold tensor
  obtain ⟨x0, x1, x2, _⟩ := newTensor HNA.out
  obtain ⟨uA, huA⟩ : ∃ uA, wA.alloc (Obj.cells #[.slice ava avl avc, .int .i64 es, .slice avb avm avk] 25) = uA := ⟨_, rfl⟩
  have LT := light_any uA.heap.size 1 (by omega) [m] (uA.alloc (Obj.cells #[.slice a l c, .int .i64 e, .slice b m k0] 25)) (by
    have N2 := newTensor (tensor_cells uA a l c e b m k0 25)
    refine ⟨rfl, fun i hi => ?_⟩
    obtain rfl : i = 0 := by omega
    exact ⟨a, l, c, e, b, k0, by show m ≤ _; omega, N2.1, N2.2.1, N2.2.2.1⟩)
  have HS : [m].sum = m := by simp
  rw [HS] at LT
  obtain ⟨B, hB⟩ : ∃ B, decide (m ≤ 2000) = B := ⟨_, rfl⟩
  rw [hB] at LT
  have HB := Lib.hid hB
  have HLT := Lib.hid LT
  have HU := Lib.hid huA
  clear hB HS LT huA bt bb
  go_wp2_with fail
  rw [HU.out]
  have hsz : wA.heap.size + 1 = uA.heap.size := by rw [← HU.out, World.size_alloc]
  rw [hsz]
  refine HLT.out.mono ?_
  rintro e1 w3 ⟨rfl, hb3⟩
  have BC := Lib.hid ((HU.out ▸ BA.out : Below w.heap.size w uA).step ((below_alloc uA _).step hb3))
  have hlen := HF.out
  clear x0 x1 x2 HLT HU hb3
  by_cases hE0 : E = 0
  · obtain rfl : B = false := by
      rw [← HB.out]
      exact decide_eq_false (fun h => HBad.out ⟨hE0, h⟩)
    subst hE0
    go_wp2_with fail
    refine (awakeP_any _).mono ?_
    rintro e1 w4 ⟨rfl, hb4⟩
    go_wp2
    go_ret
    exact ⟨rfl, BC.out.step hb4⟩
  · have hnil := HTop.out hE0
    rw [hnil] at hlen
    obtain rfl : avfl = 0 := by simpa using hlen.symm
    have c1 : (E != 0) = true := by rw [bne_iff_ne]; exact hE0
    have c2 : (E == 0) = false := by rw [beq_eq_false_iff_ne]; exact hE0
    clear hnil hlen
    cases B
    all_goals
      go_wp2_with fail
      refine (awakeP_any _).mono ?_
      rintro e1 w4 ⟨rfl, hb4⟩
      go_wp2
      go_ret
      exact ⟨rfl, BC.out.step hb4⟩
end Go.Proofs.Ytaijiihlkcbdhaa
