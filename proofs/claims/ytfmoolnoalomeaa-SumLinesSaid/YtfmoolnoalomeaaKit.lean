/-
  What the walks of this seat share: a slice of numbers that lies in the memory, as the walks take it ('RowAt') and as a row's proof hands it on ('IsRow').
-/
import Derived.Test.YtfmoolnoalomeaaProg
import Derived.WalkKit
import Derived.ProofKit
import Derived.Handy
import Derived.LoopTactic
import Derived.OpenShut
import Derived.Outline
import Derived.Lib.Hide
import Derived.Lib.SlBytesConst
import Derived.Laws.IdiomStrings
import Derived.WalkLawsBesides
import Derived.SizedLaws
namespace Go.Proofs.Ytfmoolnoalomeaa
open Go.RowKit

/-- A slice of 'len' numbers 'zs' lies in the memory. -/
def RowAt (k : IntKind) (w : World) (a : Option Addr) (len : Nat) (zs : List Int) : Prop :=
  zs.length = len ∧ len ≤ 140737488351232 ∧ (∀ z ∈ zs, (Lit.int k z).wf = true) ∧
  (len = 0 ∨ ∃ b off, a = some ⟨b, off, none⟩ ∧ ∀ j, j < len → w.cell? ⟨b, off + j, none⟩ = some (.int k (zs.getD j 0)))

/-- What a row's proof tells of a slice of numbers (of 'by' bytes each) that came in. -/
def IsRow (k : IntKind) (by' : Nat) (w : World) (a : Option Addr) (len cap : Nat) (zs : List Int) : Prop :=
  (a = none ∧ len = 0 ∧ cap = 0 ∧ zs = []) ∨
  ∃ x, a = some x ∧ len ≤ cap ∧ cap * by' ≤ 140737488351232 ∧ zs.length = cap ∧ (∀ i, i < zs.length → w.cell? (x.add i) = some (.int k (zs.getD i 0))) ∧ ∀ n ∈ zs, (Lit.int k n).wf = true

theorem IsRow.cap_le {k : IntKind} {by' : Nat} {w : World} {a : Option Addr} {len cap : Nat} {zs : List Int} (h : IsRow k by' w a len cap zs) (hb : 1 ≤ by') : len ≤ cap ∧ cap ≤ 140737488351232 := by
  rcases h with ⟨rfl, rfl, rfl, rfl⟩ | ⟨x, rfl, hl, hm, hz, hc, hw⟩
  · exact ⟨Nat.le_refl _, Nat.zero_le _⟩
  · exact ⟨hl, Nat.le_trans (Nat.le_mul_of_pos_right cap hb) hm⟩

theorem IsRow.at {k : IntKind} {by' : Nat} {w : World} {a : Option Addr} {len cap : Nat} {zs : List Int} (h : IsRow k by' w a len cap zs) (hb : 1 ≤ by') : RowAt k w a len (zs.take len) := by
  have hle := h.cap_le hb
  rcases h with ⟨rfl, rfl, rfl, rfl⟩ | ⟨x, rfl, hl, hm, hz, hc, hw⟩
  · exact ⟨rfl, by omega, by simp, Or.inl rfl⟩
  · refine ⟨by simp; omega, by omega, fun z hz' => hw z (List.mem_of_mem_take hz'), ?_⟩
    by_cases h0 : len = 0
    · exact Or.inl h0
    · obtain ⟨b, off, spot⟩ := x
      have hspot : spot = none := by simpa [Addr.add] using World.cell?_spot (hc 0 (by omega))
      subst hspot
      refine Or.inr ⟨b, off, rfl, fun j hj => ?_⟩
      have hcj := hc j (by omega)
      have e : (⟨b, off, none⟩ : Addr).add j = ⟨b, off + j, none⟩ := by
        unfold Addr.add; by_cases h0 : j = 0 <;> simp [h0]
      rw [e] at hcj
      rw [hcj]
      simp [List.getD, hj]

theorem RowAt.len_eq {k : IntKind} {w : World} {a : Option Addr} {len : Nat} {zs : List Int} (h : RowAt k w a len zs) : zs.length = len := h.1
theorem RowAt.len_le {k : IntKind} {w : World} {a : Option Addr} {len : Nat} {zs : List Int} (h : RowAt k w a len zs) : len ≤ 140737488351232 := h.2.1
theorem RowAt.wf {k : IntKind} {w : World} {a : Option Addr} {len : Nat} {zs : List Int} (h : RowAt k w a len zs) : ∀ z ∈ zs, (Lit.int k z).wf = true := h.2.2.1
/-- Where there is an element: the head's address, and every cell. -/
theorem RowAt.cells {k : IntKind} {w : World} {a : Option Addr} {len : Nat} {zs : List Int} (h : RowAt k w a len zs) (h0 : 0 < len) :
    ∃ b off, a = some ⟨b, off, none⟩ ∧ ∀ j, j < len → w.cell? ⟨b, off + j, none⟩ = some (.int k (zs.getD j 0)) := by
  rcases h.2.2.2 with h' | h'
  · omega
  · exact h'

/-- It stays where memory below the heap's size stays. -/
theorem RowAt.mono {k : IntKind} {w w' : World} {a : Option Addr} {len : Nat} {zs : List Int} (h : RowAt k w a len zs) (hc : ∀ p v, w.cell? p = some v → w'.cell? p = some v) : RowAt k w' a len zs := by
  obtain ⟨h1, h2, h3, h4⟩ := h
  refine ⟨h1, h2, h3, ?_⟩
  rcases h4 with h4 | ⟨b, off, e, hcell⟩
  · exact Or.inl h4
  · exact Or.inr ⟨b, off, e, fun j hj => hc _ _ (hcell j hj)⟩
theorem RowAt.below {k : IntKind} {w w' : World} {a : Option Addr} {len : Nat} {zs : List Int} (h : RowAt k w a len zs) (hb : Below w.heap.size w w') : RowAt k w' a len zs :=
  h.mono fun p _ hp => (hb.cell (p := p) (World.block_lt_of_cell? w p hp)).trans hp
/-- Its first elements. -/
theorem RowAt.take {k : IntKind} {w : World} {a : Option Addr} {len : Nat} {zs : List Int} (h : RowAt k w a len zs) (n : Nat) (hn : n ≤ len) : RowAt k w a n (zs.take n) := by
  obtain ⟨h1, h2, h3, h4⟩ := h
  refine ⟨by simp; omega, by omega, fun z hz' => h3 z (List.mem_of_mem_take hz'), ?_⟩
  by_cases h0 : n = 0
  · exact Or.inl h0
  · rcases h4 with h4 | ⟨b, off, e, hcell⟩
    · omega
    · refine Or.inr ⟨b, off, e, fun j hj => ?_⟩
      rw [hcell j (by omega)]
      simp [List.getD, hj]

theorem RowAt.new (w : World) (k : IntKind) (e : TypeId) (fr : Nat × Nat) (zs : List Int) (hw : ∀ z ∈ zs, (Lit.int k z).wf = true) (hl : zs.length ≤ 140737488351232) :
    RowAt k (w.alloc (.cells (zs.map (Value.int k)).toArray e fr)) (some ⟨w.heap.size, 0, none⟩) zs.length zs := by
  refine ⟨rfl, hl, hw, Or.inr ⟨w.heap.size, 0, rfl, fun j hj => ?_⟩⟩
  rw [World.cell?_alloc_mark, Nat.zero_add]
  simp [List.getD, List.getElem?_eq_getElem hj]
/-- What the call itself owns. -/
theorem RowAt.owned {k : IntKind} {w : World} {base e g n cap : Nat} {zs : List Int} (h : w.ownsRow base e 1 (.slice (some ⟨g, 0, none⟩) n cap) n (zs.map (Value.int k))) (hw : ∀ z ∈ zs, (Lit.int k z).wf = true) (hl : n ≤ 140737488351232) :
    RowAt k w (some ⟨g, 0, none⟩) n zs := by
  have hlen : zs.length = n := by simpa using h.1
  refine ⟨hlen, hl, hw, Or.inr ⟨g, 0, rfl, fun j hj => ?_⟩⟩
  rw [Nat.zero_add, h.cellAt j (by omega)]
  simp [List.getD, List.getElem?_eq_getElem (show j < zs.length by omega)]

/-- A cell that was there is there. -/
theorem _root_.Go.RowKit.Below.cell_of {w w' : World} {p : Addr} {v : Value} (hb : Below w.heap.size w w') (h : w.cell? p = some v) : w'.cell? p = some v := (hb.cell (p := p) (World.block_lt_of_cell? w p h)).trans h
theorem ret_int {k : IntKind} {a b : Int} (h : a = b) : Ending.returned (.int k a) = .returned (.int k b) := by rw [h]
theorem ret_bool {a b : Bool} (h : a = b) : Ending.returned (.bool a) = .returned (.bool b) := by rw [h]
end Go.Proofs.Ytfmoolnoalomeaa
