/-
  slices.Clone of a row of numbers that has some.
-/
import Derived.Test.YtaijiihlkcbdhaaPoolBase
import Derived.Test.YtaijiihlkcbdhaaOwn
import Derived.Lib.SliceRun
namespace Go.Proofs.Ytaijiihlkcbdhaa
open Go.RowKit
set_option linter.unusedVariables false
theorem wpList_append_clone {P : Program} (w : World) {ops : Array Oper} {rest : List Oper} {o : Oper} {a : Act} {Q : Exit → Act → World → Prop} (hgd : Region.wanted o (yielded ops a.tmps) = true) (s x : Operand) (t : TypeId)
    (ho : o.op = .call { callee := .builtin .append, args := #[s, x], argTypes := #[t, t] })
    (e : TypeId) (i : TypeInfo) (z : Value) (bytes : Nat) (ht : P.underlying t = some (.slice e)) (hi : P.info? e = some i) (hz : i.zero = some z) (hsize : i.size = 1) (hby : i.bytes = bytes)
    (g : Addr) (hs : a.eval s = .slice (some g) 0 0)
    (ad : Addr) (m c : Nat) (news : List Value) (hx : a.eval x = .slice (some ad) m c) (hl : news.length = m) (hnews : ∀ j u, news[j]? = some u → w.cell? (ad.add j) = some u)
    (h63 : m ≤ 9223372036854775807) (hbytes : m * bytes ≤ 140737488355328) (hm : 0 < m)
    (h : ∀ cap, m ≤ cap → wpList P ops Q rest (a.put o.dst (.slice (some ⟨w.heap.size, 0, none⟩) m cap)) (w.drew.alloc (.cells (news.toArray ++ Builtin.zeroCells z.cells (cap - m)) e))) : wpList P ops Q (o :: rest) a w :=
  BigFrame.wpList_want hgd fun _ hK => by
    have hr := run_append_grow (P := P) w t o.type e i z ht hi hz g 0 0 [] (by simp) (by simp) ad m c news (by rw [hsize, hl, Nat.mul_one]) hnews (by omega) (by omega) (growslice_fits (by omega) (by rw [Nat.zero_add, hby]; exact hbytes))
    have hge := grownCap_ge w (0 + m) 0 e
    unfold Oper.wp execOp
    simp only [ho, resolve, invoke, builtin, Sem.run_bind, Sem.run_pure, Result.andThen_ok, List.map_toArray, List.map_cons, List.map_nil, hs, hx, hr]
    refine hK _ _ ?_
    rw [Nat.zero_add] at hge ⊢
    have := h _ hge
    simpa using this
/-- What Clone leaves: a row of the call's own behind an empty one. -/
def CloneOut (w : World) (n : Nat) (xs : List Int) (e : Ending) (w' : World) : Prop :=
  ∃ c cs, e = .returned (.slice (some ⟨w.heap.size + 1, 0, none⟩) n c) ∧ w' = ((w.alloc (.cells #[] 3)).drew.alloc (.cells cs 3)) ∧ ∀ j, j < n → cs[j]? = some (.int .i64 (xs.getD j 0))
set_option maxHeartbeats 400000 in
theorem clone_any (a : Option Addr) (len cap : Nat) (xs : List Int) (w : World) (h : RowAt .i64 w a len xs) (h0 : 0 < len) (h1 : len ≤ 1000) :
    Calls Try.prog 34 #[.slice a len cap] w (CloneOut w len xs) := by
  obtain ⟨b, off, rfl, e0⟩ := h.cells h0
  obtain ⟨i0, hi, hz0, hz1, hz2⟩ : ∃ i0, Try.prog.info? 3 = some i0 ∧ i0.zero = some (.int .i64 0) ∧ i0.size = 1 ∧ i0.bytes = 8 := ⟨_, rfl, rfl, rfl, rfl⟩
  have HN := Lib.hid (show ∀ j u, (xs.map (Value.int .i64))[j]? = some u → (w.alloc (.cells #[] 3)).cell? ((⟨b, off, none⟩ : Addr).add j) = some u from by
    intro j u hj
    have hlen : j < xs.length := by
      have := (List.getElem?_eq_some_iff.1 hj).1
      simpa using this
    rw [List.getElem?_map, List.getElem?_eq_getElem hlen, Option.map_some] at hj
    have := (below_alloc w (.cells #[] 3)).cell_of (e0 j (by rw [← h.len_eq]; exact hlen))
    have e : (⟨b, off, none⟩ : Addr).add j = ⟨b, off + j, none⟩ := by
      unfold Addr.add; by_cases h0 : j = 0 <;> simp [h0]
    rw [e, this, ← hj]
    simp [List.getD, hlen])
  have HL := Lib.hid h.len_eq
  have hq := fun w : World => Lib.run_eql_slice_nil (P := Try.prog) w 22 3 (some ⟨b, off, none⟩) len cap 0 0 Try.underlying22
  clear e0 h
  go_enter Try.func34, Try.ntmps34
  go_wp2_with (at_builtin; refine wpList_append_clone _ rfl _ _ 22 rfl 3 i0 (.int .i64 0) 8 Try.underlying22 hi hz0 hz1 hz2 ⟨w.heap.size, 0, none⟩ rfl ⟨b, off, none⟩ len cap (xs.map (Value.int .i64)) rfl (by rw [List.length_map]; exact HL.out) HN.out (by omega) (by omega) h0 ?_)
  intro c hc
  go_wp2_with fail
  go_ret
  refine ⟨_, _, rfl, rfl, fun j hj => ?_⟩
  have hl : j < xs.length := by rw [HL.out]; exact hj
  rw [Array.getElem?_append_left (by simpa using hl)]
  simp [hl, List.getD]
end Go.Proofs.Ytaijiihlkcbdhaa
