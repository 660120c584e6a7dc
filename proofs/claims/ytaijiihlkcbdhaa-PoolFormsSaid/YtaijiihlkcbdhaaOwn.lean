/-
  'append' onto what the call owns, with where the new row lies.
-/
import Derived.Test.YtaijiihlkcbdhaaKit
import Derived.OwnWalk
import Derived.Maps.AppendAt
namespace Go.Proofs.Ytaijiihlkcbdhaa
open Go.RowKit
/-- 'append' of at least one element: the value is a slice at the head of a row: the old row's block, or a new one. -/
theorem wpList_append_where {P : Program} (w : World) {ops : Array Oper} {rest : List Oper} {o : Oper} {a : Act} {Q : Exit → Act → World → Prop} (hgd : Region.wanted o (yielded ops a.tmps) = true) (s x : Operand) (t : TypeId)
    (ho : o.op = .call { callee := .builtin .append, args := #[s, x], argTypes := #[t, t] })
    (base : Nat) (e : TypeId) (i : TypeInfo) (z : Value) (size bytes : Nat) (ht : P.underlying t = some (.slice e)) (hi : P.info? e = some i) (hz : i.zero = some z)
    (hsize : i.size = size) (hby : i.bytes = bytes) (hzs : z.cells.size = size) (hsz : 0 < size)
    (v : Value) (n : Nat) (xs : List Value) (hs : a.eval s = v) (hown : w.ownsRow base e size v n xs)
    (ad : Addr) (m c : Nat) (news : List Value) (hx : a.eval x = .slice (some ad) m c) (hl : news.length = m * size) (hnews : ∀ j u, news[j]? = some u → w.cell? (ad.add j) = some u) (h1 : ∀ u ∈ news, u.oneCell' = true)
    (h63 : n + m ≤ maxLen) (hbytes : (n + m) * bytes ≤ 140737488355328) (hbase : base ≤ w.heap.size) (hm : 0 < m)
    (h : ∀ g c' w', w'.ownsRow base e size (.slice (some ⟨g, 0, none⟩) (n + m) c') (n + m) (xs ++ news) → w.grownBy w' v.ownBlock → (v.ownBlock = some g ∨ g = w.heap.size) → base ≤ g ∧ g < w'.heap.size → wpList P ops Q rest (a.put o.dst (.slice (some ⟨g, 0, none⟩) (n + m) c')) w') : wpList P ops Q (o :: rest) a w :=
  BigFrame.wpList_want hgd fun _ hK => by
    obtain ⟨v', w', hr, h2, h3, h4, h5⟩ := run_append_own_at (P := P) w base t o.type e i z size bytes ht hi hz hsize hby hzs hsz v n xs hown ad m c news hl hnews h1 h63 hbytes hbase
    unfold Oper.wp execOp
    simp only [ho, resolve, invoke, builtin, Sem.run_bind, Sem.run_pure, Result.andThen_ok, List.map_toArray, List.map_cons, List.map_nil, hs, hx, hr]
    refine hK _ _ ?_
    obtain ⟨g, c', hv⟩ : ∃ g c', v' = .slice (some ⟨g, 0, none⟩) (n + m) c' := by
      rcases h2.2 with ⟨h6, _⟩ | ⟨g, c', _, h6, _⟩
      · have := (h4.1 h6).2; omega
      · exact ⟨g, c', h6⟩
    have h2' : w'.ownsRow base e size (.slice (some ⟨g, 0, none⟩) (n + m) c') (n + m) (xs ++ news) := hv ▸ h2
    have h5' : v.ownBlock = some g ∨ g = w.heap.size := by
      rw [hv] at h5
      rcases h5 with h5 | h5
      · exact Or.inl h5.symm
      · right
        have : some g = some w.heap.size := h5
        exact Option.some.inj this
    rw [hv]
    exact h g c' w' h2' h3 h5' (h2'.lt g rfl)
theorem below_grown {w w' : World} (hb : Below w.heap.size w w') : w.grownBy w' none := ⟨hb.os, hb.tape, hb.output, hb.size, fun k hk _ => hb.block k hk⟩
theorem owned_below {w w' : World} {base e size n : Nat} {v : Value} {xs : List Value} (h : w.ownsRow base e size v n xs) (hb : Below w.heap.size w w') : w'.ownsRow base e size v n xs := by
  refine h.kept (below_grown hb) ?_
  by_cases e : v.ownBlock = none
  · exact Or.inl e
  · exact Or.inr e
/-- A cell of another block than the one that was written. -/
theorem grown_cell {w w' : World} {row : Option Nat} {g o : Nat} {u : Value} (hg : w.grownBy w' row) (h : w.cell? ⟨g, o, none⟩ = some u) (hne : row ≠ some g) : w'.cell? ⟨g, o, none⟩ = some u := by
  have hl := World.block_lt_of_cell? w _ h
  have := hg.block g hl (fun e => hne e.symm)
  unfold World.cell? at h ⊢
  simp only [this]
  exact h
/-- What a row of the call's own does not share with a row that is only read. -/
def Off (v : Value) (a : Option Addr) : Prop := ∀ x, a = some x → v.ownBlock ≠ some x.block
theorem Off.fresh {w : World} {base e size n : Nat} {v : Value} {xs : List Value} {a : Option Addr} (h : w.ownsRow base e size v n xs) (ha : ∀ x, a = some x → w.heap.size ≤ x.block) : Off v a := fun x hx hv => by
  have h1 := (h.lt _ hv).2
  have h2 := ha x hx
  omega
theorem Off.new {v : Value} {a : Option Addr} {g n c B : Nat} (h : Off v a) (hg : v.ownBlock = some g ∨ g = B) (hlt : ∀ x, a = some x → x.block < B) : Off (.slice (some ⟨g, 0, none⟩) n c) a := fun x hx hv => by
  have hv : some g = some x.block := hv
  rcases hg with hg | hg
  · exact h x hx (hg.trans hv)
  · have := hlt x hx
    injection hv with hv
    omega
end Go.Proofs.Ytaijiihlkcbdhaa
