/-
  What the walks of this seat share: a slice of numbers that lies in the memory, as the walks take it ('RowAt') and as a row's proof hands it on ('IsRow').
-/
import Derived.Test.YtaijiihlkcbdhaaProg
import Derived.WalkKit
import Derived.ProofKit
import Derived.Handy
import Derived.LoopTactic
import Derived.OpenShut
import Derived.Outline
import Derived.Lib.Hide
import Derived.Lib.SlBytesConst
import Derived.Laws.IdiomStrings
import Derived.WalkLawsBesides
import Derived.SizedLaws
namespace Go.Proofs.Ytaijiihlkcbdhaa
open Go.RowKit

/-- A slice of 'len' numbers 'zs' lies in the memory. -/
def RowAt (k : IntKind) (w : World) (a : Option Addr) (len : Nat) (zs : List Int) : Prop :=
  zs.length = len ∧ len ≤ 140737488351232 ∧ (∀ z ∈ zs, (Lit.int k z).wf = true) ∧
  (len = 0 ∨ ∃ b off, a = some ⟨b, off, none⟩ ∧ ∀ j, j < len → w.cell? ⟨b, off + j, none⟩ = some (.int k (zs.getD j 0)))

/-- What a row's proof tells of a slice of numbers (of 'by' bytes each) that came in. -/
def IsRow (k : IntKind) (by' : Nat) (w : World) (a : Option Addr) (len cap : Nat) (zs : List Int) : Prop :=
  (a = none ∧ len = 0 ∧ cap = 0 ∧ zs = []) ∨
  ∃ x, a = some x ∧ len ≤ cap ∧ cap * by' ≤ 140737488351232 ∧ zs.length = cap ∧ (∀ i, i < zs.length → w.cell? (x.add i) = some (.int k (zs.getD i 0))) ∧ ∀ n ∈ zs, (Lit.int k n).wf = true

theorem IsRow.cap_le {k : IntKind} {by' : Nat} {w : World} {a : Option Addr} {len cap : Nat} {zs : List Int} (h : IsRow k by' w a len cap zs) (hb : 1 ≤ by') : len ≤ cap ∧ cap ≤ 140737488351232 := by
  rcases h with ⟨rfl, rfl, rfl, rfl⟩ | ⟨x, rfl, hl, hm, hz, hc, hw⟩
  · exact ⟨Nat.le_refl _, Nat.zero_le _⟩
  · exact ⟨hl, Nat.le_trans (Nat.le_mul_of_pos_right cap hb) hm⟩

theorem IsRow.at {k : IntKind} {by' : Nat} {w : World} {a : Option Addr} {len cap : Nat} {zs : List Int} (h : IsRow k by' w a len cap zs) (hb : 1 ≤ by') : RowAt k w a len (zs.take len) := by
  have hle := h.cap_le hb
  rcases h with ⟨rfl, rfl, rfl, rfl⟩ | ⟨x, rfl, hl, hm, hz, hc, hw⟩
  · exact ⟨rfl, by omega, by simp, Or.inl rfl⟩
  · refine ⟨by simp; omega, by omega, fun z hz' => hw z (List.mem_of_mem_take hz'), ?_⟩
    by_cases h0 : len = 0
    · exact Or.inl h0
    · obtain ⟨b, off, spot⟩ := x
      have hspot : spot = none := by simpa [Addr.add] using World.cell?_spot (hc 0 (by omega))
      subst hspot
      refine Or.inr ⟨b, off, rfl, fun j hj => ?_⟩
      have hcj := hc j (by omega)
      have e : (⟨b, off, none⟩ : Addr).add j = ⟨b, off + j, none⟩ := by
        unfold Addr.add; by_cases h0 : j = 0 <;> simp [h0]
      rw [e] at hcj
      rw [hcj]
      simp [List.getD, hj]

theorem RowAt.len_eq {k : IntKind} {w : World} {a : Option Addr} {len : Nat} {zs : List Int} (h : RowAt k w a len zs) : zs.length = len := h.1
theorem RowAt.len_le {k : IntKind} {w : World} {a : Option Addr} {len : Nat} {zs : List Int} (h : RowAt k w a len zs) : len ≤ 140737488351232 := h.2.1
theorem RowAt.wf {k : IntKind} {w : World} {a : Option Addr} {len : Nat} {zs : List Int} (h : RowAt k w a len zs) : ∀ z ∈ zs, (Lit.int k z).wf = true := h.2.2.1
/-- Where there is an element: the head's address, and every cell. -/
theorem RowAt.cells {k : IntKind} {w : World} {a : Option Addr} {len : Nat} {zs : List Int} (h : RowAt k w a len zs) (h0 : 0 < len) :
    ∃ b off, a = some ⟨b, off, none⟩ ∧ ∀ j, j < len → w.cell? ⟨b, off + j, none⟩ = some (.int k (zs.getD j 0)) := by
  rcases h.2.2.2 with h' | h'
  · omega
  · exact h'

/-- It stays where memory below the heap's size stays. -/
theorem RowAt.mono {k : IntKind} {w w' : World} {a : Option Addr} {len : Nat} {zs : List Int} (h : RowAt k w a len zs) (hc : ∀ p v, w.cell? p = some v → w'.cell? p = some v) : RowAt k w' a len zs := by
  obtain ⟨h1, h2, h3, h4⟩ := h
  refine ⟨h1, h2, h3, ?_⟩
  rcases h4 with h4 | ⟨b, off, e, hcell⟩
  · exact Or.inl h4
  · exact Or.inr ⟨b, off, e, fun j hj => hc _ _ (hcell j hj)⟩
theorem RowAt.below {k : IntKind} {w w' : World} {a : Option Addr} {len : Nat} {zs : List Int} (h : RowAt k w a len zs) (hb : Below w.heap.size w w') : RowAt k w' a len zs :=
  h.mono fun p _ hp => (hb.cell (p := p) (World.block_lt_of_cell? w p hp)).trans hp
/-- Its first elements. -/
theorem RowAt.take {k : IntKind} {w : World} {a : Option Addr} {len : Nat} {zs : List Int} (h : RowAt k w a len zs) (n : Nat) (hn : n ≤ len) : RowAt k w a n (zs.take n) := by
  obtain ⟨h1, h2, h3, h4⟩ := h
  refine ⟨by simp; omega, by omega, fun z hz' => h3 z (List.mem_of_mem_take hz'), ?_⟩
  by_cases h0 : n = 0
  · exact Or.inl h0
  · rcases h4 with h4 | ⟨b, off, e, hcell⟩
    · omega
    · refine Or.inr ⟨b, off, e, fun j hj => ?_⟩
      rw [hcell j (by omega)]
      simp [List.getD, hj]

theorem RowAt.new (w : World) (k : IntKind) (e : TypeId) (fr : Nat × Nat) (zs : List Int) (hw : ∀ z ∈ zs, (Lit.int k z).wf = true) (hl : zs.length ≤ 140737488351232) :
    RowAt k (w.alloc (.cells (zs.map (Value.int k)).toArray e fr)) (some ⟨w.heap.size, 0, none⟩) zs.length zs := by
  refine ⟨rfl, hl, hw, Or.inr ⟨w.heap.size, 0, rfl, fun j hj => ?_⟩⟩
  rw [World.cell?_alloc_mark, Nat.zero_add]
  simp [List.getD, List.getElem?_eq_getElem hj]
/-- What the call itself owns. -/
theorem RowAt.owned {k : IntKind} {w : World} {base e g n cap : Nat} {zs : List Int} (h : w.ownsRow base e 1 (.slice (some ⟨g, 0, none⟩) n cap) n (zs.map (Value.int k))) (hw : ∀ z ∈ zs, (Lit.int k z).wf = true) (hl : n ≤ 140737488351232) :
    RowAt k w (some ⟨g, 0, none⟩) n zs := by
  have hlen : zs.length = n := by simpa using h.1
  refine ⟨hlen, hl, hw, Or.inr ⟨g, 0, rfl, fun j hj => ?_⟩⟩
  rw [Nat.zero_add, h.cellAt j (by omega)]
  simp [List.getD, List.getElem?_eq_getElem (show j < zs.length by omega)]

/-- 'append' of at least one element onto what the call owns: the value is a slice at the head of a row. -/
theorem wpList_append_some {P : Program} (w : World) {ops : Array Oper} {rest : List Oper} {o : Oper} {a : Act} {Q : Exit → Act → World → Prop} (hgd : Region.wanted o (yielded ops a.tmps) = true) (s x : Operand) (t : TypeId)
    (ho : o.op = .call { callee := .builtin .append, args := #[s, x], argTypes := #[t, t] })
    (base : Nat) (e : TypeId) (i : TypeInfo) (z : Value) (size bytes : Nat) (ht : P.underlying t = some (.slice e)) (hi : P.info? e = some i) (hz : i.zero = some z)
    (hsize : i.size = size) (hby : i.bytes = bytes) (hzs : z.cells.size = size) (hsz : 0 < size)
    (v : Value) (n : Nat) (xs : List Value) (hs : a.eval s = v) (hown : w.ownsRow base e size v n xs)
    (ad : Addr) (m c : Nat) (news : List Value) (hx : a.eval x = .slice (some ad) m c) (hl : news.length = m * size) (hnews : ∀ j u, news[j]? = some u → w.cell? (ad.add j) = some u) (h1 : ∀ u ∈ news, u.oneCell' = true)
    (h63 : n + m ≤ maxLen) (hbytes : (n + m) * bytes ≤ 140737488355328) (hbase : base ≤ w.heap.size) (hm : 0 < m)
    (h : ∀ g c' w', w'.ownsRow base e size (.slice (some ⟨g, 0, none⟩) (n + m) c') (n + m) (xs ++ news) → w.grownBy w' v.ownBlock → base ≤ g ∧ g < w'.heap.size → wpList P ops Q rest (a.put o.dst (.slice (some ⟨g, 0, none⟩) (n + m) c')) w') : wpList P ops Q (o :: rest) a w :=
  BigFrame.wpList_want hgd fun _ hK => wp_append_own w s x t ho base e i z size bytes ht hi hz hsize hby hzs hsz v n xs hs hown ad m c news hx hl hnews h1 h63 hbytes hbase fun v' w' h2 h3 h4 => hK _ _ <| by
    obtain ⟨g, c', hv⟩ : ∃ g c', v' = .slice (some ⟨g, 0, none⟩) (n + m) c' := by
      rcases h2.2 with ⟨h5, _⟩ | ⟨g, c', _, h5, _⟩
      · have := (h4.1 h5).2; omega
      · exact ⟨g, c', h5⟩
    have h2' : w'.ownsRow base e size (.slice (some ⟨g, 0, none⟩) (n + m) c') (n + m) (xs ++ news) := hv ▸ h2
    rw [hv]
    exact h g c' w' h2' h3 (h2'.lt g rfl)
/-- 'int(uint64(a) % uint64(n))'. -/
theorem umod_ex (a : Int) (n : Nat) (h : 0 < n) : ∃ t : Nat, t < n ∧ (IntKind.u64.wrap a).tmod (n : Int) = (t : Int) := by
  have h0 : 0 ≤ IntKind.u64.wrap a := wrap_u64_nonneg a
  have e := Int.tmod_eq_emod_of_nonneg (b := (n : Int)) h0
  have h1 := Int.emod_nonneg (IntKind.u64.wrap a) (show (n : Int) ≠ 0 by omega)
  have h2 := Int.emod_lt_of_pos (IntKind.u64.wrap a) (show (0 : Int) < n by omega)
  exact ⟨((IntKind.u64.wrap a).tmod (n : Int)).toNat, by omega, by omega⟩
/-- 'int(uint64(a) % c)', c a constant. -/
theorem umod_const (a : Int) (c : Int) (h : 0 < c) : ∃ t : Nat, (t : Int) < c ∧ (IntKind.u64.wrap a).tmod c = (t : Int) := by
  have h0 : 0 ≤ IntKind.u64.wrap a := wrap_u64_nonneg a
  have e := Int.tmod_eq_emod_of_nonneg (b := c) h0
  have h1 := Int.emod_nonneg (IntKind.u64.wrap a) (show c ≠ 0 by omega)
  have h2 := Int.emod_lt_of_pos (IntKind.u64.wrap a) h
  exact ⟨((IntKind.u64.wrap a).tmod c).toNat, by omega, by omega⟩
/-- 'v % c' of an int64. -/
theorem tmod_const (v c : Int) (h : 0 < c) : ∃ V : Int, -c < V ∧ V < c ∧ v.tmod c = V :=
  ⟨v.tmod c, by have := Int.lt_tmod_of_pos v h; omega, Int.tmod_lt_of_pos v h, rfl⟩
/-- An array of four numbers that came in. -/
theorem open_array4 {H : Type} {enc : TypeId × Value → H} {P : Program} {w : World} {base : Nat} {spare : Nat → Bool} {held : Bool} {r : Reach} {b0 : Nat} {t e : TypeId} {k : IntKind} {v : Value} {d : DataW H} {ps : List MemPlace}
    (ht : P.underlying t = some (.array 4 e)) (he : P.underlying e = some (.int k)) (hc : P.cellsOf e = 1) (hC : P.cellsOf t = 4) (hval : Value.okWide P w r b0 t v) (hd : DataW.Trod enc P w base spare held t v d ps) :
    ∃ x0 x1 x2 x3, v = .agg #[.int k x0, .int k x1, .int k x2, .int k x3] ∧ ∀ x ∈ [x0, x1, x2, x3], (Lit.int k x).wf = true := by
  simp only [Value.okWide, ht] at hval
  obtain ⟨cs, rfl, hsz, _⟩ := hval
  rw [hC] at hsz
  obtain ⟨l⟩ := cs
  obtain ⟨fuel, hf⟩ := hd
  obtain ⟨xs, m, _, _, hl, hxs, hx⟩ := DataW.trod_array ht hf
  match l, hsz with
  | [c0, c1, c2, c3], _ =>
    have e0 := hx 0 (by omega)
    have e1 := hx 1 (by omega)
    have e2 := hx 2 (by omega)
    have e3 := hx 3 (by omega)
    match xs, hxs with
    | [y0, y1, y2, y3], _ =>
      simp only [hc, Value.cells] at e0 e1 e2 e3
      obtain ⟨x0, k0, _, g0⟩ := DataW.trod_int he (show DataW.trod enc P w base spare held m e [c0] = some y0 from e0)
      obtain ⟨x1, k1, _, g1⟩ := DataW.trod_int he (show DataW.trod enc P w base spare held m e [c1] = some y1 from e1)
      obtain ⟨x2, k2, _, g2⟩ := DataW.trod_int he (show DataW.trod enc P w base spare held m e [c2] = some y2 from e2)
      obtain ⟨x3, k3, _, g3⟩ := DataW.trod_int he (show DataW.trod enc P w base spare held m e [c3] = some y3 from e3)
      simp only [List.cons.injEq, and_true] at k0 k1 k2 k3
      subst k0 k1 k2 k3
      exact ⟨x0, x1, x2, x3, rfl, by simp [g0, g1, g2, g3]⟩
/-- A cell that was there is there. -/
theorem _root_.Go.RowKit.Below.cell_of {w w' : World} {p : Addr} {v : Value} (hb : Below w.heap.size w w') (h : w.cell? p = some v) : w'.cell? p = some v := (hb.cell (p := p) (World.block_lt_of_cell? w p h)).trans h
/-- It returns a slice of these numbers; nothing that was there has turned. -/
def GivesRow (k : IntKind) (n : Nat) (zs : List Int) (w : World) (e : Ending) (w' : World) : Prop := ∃ a cap, e = .returned (.slice a n cap) ∧ RowAt k w' a n zs ∧ Below w.heap.size w w'
/-- It returns this; it may have drawn. -/
def Gives (v : Value) (w : World) (e : Ending) (w' : World) : Prop := e = .returned v ∧ ∃ n, w' = w.drewN n
theorem below_drewN (w : World) (n : Nat) : Below w.heap.size w (w.drewN n) := ⟨rfl, rfl, rfl, Nat.le_refl _, fun _ _ => rfl⟩
theorem _root_.Go.RowKit.Below.draws {B : Nat} {a w : World} (h : Below B a w) (n : Nat) : Below B a (w.drewN n) := ⟨h.os, h.tape, h.output, h.size, h.block⟩
theorem new_one (w : World) (a : Value) (t : TypeId) : ∀ j u, [a][j]? = some u → (w.alloc (.cells #[a] t)).cell? ((⟨w.heap.size, 0, none⟩ : Addr).add j) = some u := by
  intro j u hj
  match j, hj with
  | 0, hj =>
    simp at hj
    subst hj
    show (w.alloc (.cells #[a] t)).cell? ⟨w.heap.size, 0, none⟩ = _
    rw [World.cell?_alloc_new]; rfl
  | j + 1, hj => simp at hj
/-- Behind an append of a new block's cells to a row of the call's own. -/
theorem below_app {B : Nat} {w0 wr w' : World} {o : Obj} {e size n : Nat} {v : Value} {xs : List Value} (h : Below B w0 wr) (hB : B ≤ wr.heap.size) (hown : wr.ownsRow B e size v n xs) (hg : (wr.alloc o).grownBy w' v.ownBlock) : Below B w0 w' :=
  (h.alloc hB o).grown hg (by rw [World.size_alloc]; omega) (fun k hk => (hown.lt k hk).1)
/-- A row of numbers with at least one is a slice at a row's head. -/
theorem owned_form {w : World} {base e n : Nat} {v : Value} {xs : List Value} (h : w.ownsRow base e 1 v n xs) (h0 : 0 < n) : ∃ g c, v = .slice (some ⟨g, 0, none⟩) n c := by
  rcases h.2 with ⟨_, h'⟩ | ⟨g, c, _, h', _⟩
  · omega
  · exact ⟨g, c, h'⟩
theorem _root_.Go.RowKit.Below.step {w w1 w2 : World} (h : Below w.heap.size w w1) (k : Below w1.heap.size w1 w2) : Below w.heap.size w w2 := h.trans (k.mono h.size)
/-- Behind an append to a new literal's row. -/
theorem below_lit {w w' : World} {o : Obj} {n c : Nat} (hg : (w.alloc o).grownBy w' (Value.ownBlock (.slice (some ⟨w.heap.size, 0, none⟩) n c))) : Below w.heap.size w w' :=
  ((Below.refl _ w).alloc (Nat.le_refl _) o).grown hg (by rw [World.size_alloc]; omega) (fun k hk => by simp only [Value.ownBlock, Option.some.injEq] at hk; omega)
theorem below_alloc (w : World) (o : Obj) : Below w.heap.size w (w.alloc o) := (Below.refl _ w).alloc (Nat.le_refl _) o
/-- The cells, as an append asks for them. -/
theorem RowAt.news {k : IntKind} {w : World} {b off len : Nat} {zs : List Int} (h : RowAt k w (some ⟨b, off, none⟩) len zs) : ∀ j u, (zs.map (Value.int k))[j]? = some u → w.cell? ((⟨b, off, none⟩ : Addr).add j) = some u := by
  intro j u hu
  have hj : j < zs.length := by have := (List.getElem?_eq_some_iff.1 hu).1; simpa using this
  obtain ⟨b', off', e, hc⟩ := h.cells (by rw [← h.len_eq]; omega)
  cases e
  rw [Addr.add_lit, hc j (by rw [← h.len_eq]; exact hj)]
  rw [List.getElem?_map, List.getElem?_eq_getElem hj] at hu
  simpa [List.getD, List.getElem?_eq_getElem hj] using hu
theorem oneCells (k : IntKind) (zs : List Int) : ∀ u ∈ zs.map (Value.int k), u.oneCell' = true := by
  intro u hu; obtain ⟨z, _, rfl⟩ := List.mem_map.1 hu; rfl
theorem lit_owned (w : World) (B e : Nat) (k : IntKind) (z : Int) (hB : B ≤ w.heap.size) : (w.alloc (.cells #[.int k z] e)).ownsRow B e 1 (.slice (some ⟨w.heap.size, 0, none⟩) 1 1) 1 [.int k z] :=
  World.ownsRow_lit w #[.int k z] 1 hB (by unfold maxLen; omega) rfl
theorem RowAt.lt {k : IntKind} {w : World} {b off len : Nat} {zs : List Int} (h : RowAt k w (some ⟨b, off, none⟩) len zs) (h0 : 0 < len) : b < w.heap.size := by
  obtain ⟨b', off', e, hc⟩ := h.cells h0
  cases e
  exact World.block_lt_of_cell? w _ (hc 0 h0)
/-- It returns this; nothing that was there has turned. -/
def GivesV (v : Value) (w : World) (e : Ending) (w' : World) : Prop := e = .returned v ∧ Below w.heap.size w w'
theorem RowAt.zero (k : IntKind) (a : Option Addr) (w : World) : RowAt k w a 0 [] := ⟨rfl, by omega, by simp, Or.inl rfl⟩
theorem ret_int {k : IntKind} {a b : Int} (h : a = b) : Ending.returned (.int k a) = .returned (.int k b) := by rw [h]
theorem ret_bool {a b : Bool} (h : a = b) : Ending.returned (.bool a) = .returned (.bool b) := by rw [h]
end Go.Proofs.Ytaijiihlkcbdhaa
