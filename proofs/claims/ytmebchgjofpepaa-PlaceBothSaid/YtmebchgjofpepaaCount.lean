/-
  A map that the call makes and that counts rows of numbers: 'm[[n]int{..}]++', 'm[[n]int{..}]', 'len(m)'.
-/
import Derived.Test.YtmebchgjofpepaaKit
import Derived.Maps.OwnSet
import Derived.DeepKeys5
import Derived.WideKeyEntry
namespace Go.Proofs.Ytmebchgjofpepaa
open Go.RowKit
open Go.ChangeMaps (setBlock)
open Go.Maps (Keyed)
set_option linter.unusedVariables false
namespace Ct
def keyV (xs : List Int) : Value := .agg (xs.map (Value.int .i64)).toArray
def keyL (xs : List Int) : Lit := .string (keyBytes (xs.map (Lit.int .i64)))
def Fine (n : Nat) (xs : List Int) : Prop := xs.length = n ∧ ∀ x ∈ xs, (Lit.int .i64 x).wf = true
theorem keyV_inj {xs ys : List Int} (h : keyV xs = keyV ys) : xs = ys := by
  unfold keyV at h
  injection h with h
  have h2 : xs.map (Value.int .i64) = ys.map (Value.int .i64) := by simpa using h
  have inj : ∀ a b : Int, Value.int .i64 a = Value.int .i64 b → a = b := fun a b e => by injection e
  exact (List.map_inj_right inj).1 h2
/-- The types of such a map. -/
structure Kind (P : Program) (t k e : TypeId) (n : Nat) : Prop where
  ht : P.underlying t = some (.map k e)
  he : P.underlying e = some (.int .i64)
  law : WideMaps.KeyLaw P k
  key : ∀ xs : List Int, Fine n xs → keyOf P k (keyV xs) = some (keyL xs)
  zero : ∀ w, (zeroValue e).run P w = .ok (.int .i64 0) w
theorem Kind.inj {P : Program} {t k e : TypeId} {n : Nat} (K : Kind P t k e n) {xs ys : List Int} (hx : Fine n xs) (hy : Fine n ys) (h : keyL xs = keyL ys) : xs = ys :=
  keyV_inj (K.law.inj (K.key xs hx) (h ▸ K.key ys hy))
/-- Block b is a map that counts the rows of L. -/
def At (P : Program) (k e : TypeId) (n : Nat) (w : World) (b : Nat) (L : List (List Int)) : Prop :=
  ∃ D : DataW Unit, w.ownsMap P k (plainElem P e) b L.length D ∧ (∀ xs, Fine n xs → D.atKey (keyL xs) (.lit (.int .i64 0)) = .lit (.int .i64 (L.count xs : Nat))) ∧
    (∀ xs, Fine n xs → Maps.has D (keyL xs) = L.contains xs) ∧ (L.Nodup → Maps.size D = L.length)
variable {P : Program} {t k e : TypeId} {n : Nat}
theorem made (w : World) : At P k e n (w.alloc (.map #[] 0)) w.heap.size [] :=
  ⟨_, World.ownsMap_made w P k _, fun _ _ => rfl, fun _ _ => rfl, fun _ => rfl⟩
theorem At.lt {w : World} {b : Nat} {L : List (List Int)} (h : At P k e n w b L) : b < w.heap.size := by
  obtain ⟨D, h1, _⟩ := h; exact h1.lt
theorem At.drewN {w : World} {b : Nat} {L : List (List Int)} (h : At P k e n w b L) (q : Nat) : At P k e n (w.drewN q) b L := h
theorem At.drew {w : World} {b : Nat} {L : List (List Int)} (h : At P k e n w b L) : At P k e n w.drew b L := h
theorem At.kept {w w' : World} {row : Option Nat} {b : Nat} {L : List (List Int)} (h : At P k e n w b L) (hg : w.grownBy w' row) (hne : some b ≠ row) : At P k e n w' b L := by
  obtain ⟨D, h1, h2⟩ := h; exact ⟨D, h1.kept hg hne, h2⟩
theorem At.alloc {w : World} {b : Nat} {L : List (List Int)} (h : At P k e n w b L) (o : Obj) : At P k e n (w.alloc o) b L := by
  obtain ⟨D, h1, h2⟩ := h; exact ⟨D, h1.alloc o, h2⟩
theorem At.below {w w' : World} {b : Nat} {L : List (List Int)} (h : At P k e n w b L) (hb : Below w.heap.size w w') : At P k e n w' b L := by
  have hl := h.lt
  obtain ⟨D, ⟨es, clock, hh, h1⟩, h2⟩ := h
  exact ⟨D, ⟨es, clock, (hb.block b hl).trans hh, h1⟩, h2⟩
theorem At.look (K : Kind P t k e n) {w : World} {b : Nat} {L : List (List Int)} (h : At P k e n w b L) {xs : List Int} (hx : Fine n xs) :
    (Instr.lookup t (.map (some b)) (keyV xs) false).run P w = .ok (.int .i64 (L.count xs : Nat)) w := by
  obtain ⟨D, h1, h2, _⟩ := h
  obtain ⟨c, hr, hc, _⟩ := h1.lookup_int (Keyed.of_law K.law) K.ht K.he (K.zero w) (K.key xs hx)
  rw [hr]
  have := (h2 xs hx).symm.trans hc
  injection this with this
  injection this with _ this
  rw [this]
theorem At.len (K : Kind P t k e n) {w : World} {b : Nat} {L : List (List Int)} (h : At P k e n w b L) (ty : TypeId) : ∃ c : Nat, (L.Nodup → c = L.length) ∧ (Builtin.len_ #[t] ty #[.map (some b)]).run P w = .ok (.int .i64 c) w := by
  obtain ⟨D, h1, _, _, h2⟩ := h
  exact ⟨_, h2, h1.len K.ht ty⟩
/-- 'm[k] = v' with one more. -/
theorem At.more (K : Kind P t k e n) {w w' : World} {b : Nat} {L : List (List Int)} (h : At P k e n w b L) (hL : L.length < maxLen) {xs : List Int} (hx : Fine n xs)
    (hw' : ∀ D : DataW Unit, w.ownsMap P k (plainElem P e) b L.length D → (Lit.int .i64 ((L.count xs : Nat) + 1)).wf = true → w'.ownsMap P k (plainElem P e) b (L.length + 1) (D.put (keyL xs) (.lit (.int .i64 ((L.count xs : Nat) + 1))))) : At P k e n w' b (L ++ [xs]) := by
  obtain ⟨D, h1, h2, h3, h4⟩ := h
  have hcnt : L.count xs ≤ L.length := List.count_le_length
  have hwf : (Lit.int .i64 ((L.count xs : Nat) + 1)).wf = true := WalkArith.wf_i64 (by unfold maxLen at hL; omega)
  have isK : WideAt.IsKeyLit (keyL xs) := (Keyed.of_law K.law).key (K.key xs hx)
  refine ⟨_, by rw [List.length_append]; exact hw' D h1 hwf, fun ys hy => ?_, fun ys hy => ?_, fun hn => ?_⟩
  · by_cases e : ys = xs
    · subst e
      rw [Maps.atKey_put_same h1.isMap isK]
      simp
    · rw [Maps.atKey_put_other (fun h => e (K.inj hy hx h)), h2 ys hy]
      rw [List.count_append, List.count_singleton, show (xs == ys) = false by simpa using fun h => e h.symm]
      simp
  · by_cases e : ys = xs
    · subst e
      rw [Maps.has_put_same h1.isMap isK]
      simp
    · rw [Maps.has_put_other (fun h => e (K.inj hy hx h)), h3 ys hy]
      simp [e]
  · obtain ⟨n1, n2, n3⟩ := List.nodup_append.1 hn
    rw [Maps.size_put (h1.tidy (Keyed.of_law K.law)), h3 xs hx, h4 n1]
    have : L.contains xs = false := by
      cases hc : L.contains xs
      · rfl
      · exact absurd rfl (n3 xs (by simpa using hc) xs (by simp))
    rw [this]
    simp
/-- 'm[k]++', its three operations on the map. -/
theorem At.bump (K : Kind P t k e n) {w : World} {b : Nat} {L : List (List Int)} (h : At P k e n w b L) (hL : L.length < maxLen) {xs : List Int} (hx : Fine n xs) :
    ∃ (v0 : Value) (st : Nat) (w1 w2 : World), (Instr.mapEntry t (.map (some b)) (keyV xs)).run P w = .ok (.tuple #[v0, .int .i64 st]) w1 ∧
      (Instr.lookup t (.map (some b)) (keyV xs) false).run P w1 = .ok (.int .i64 (L.count xs : Nat)) w1 ∧
      (Instr.entryStore t (.map (some b)) (.int .i64 st) (.int .i64 ((L.count xs : Nat) + 1))).run P w1 = .ok () w2 ∧
      At P k e n w2 b (L ++ [xs]) ∧ w.grownBy w2 (some b) := by
  have h0 := h
  obtain ⟨D, ⟨es, clock, hb, F, hs, hD⟩, h2, h3, h4⟩ := h
  obtain ⟨v0, st, es1, clock1, hrun, _, hst⟩ := WideElems.entry_then_store K.law K.ht K.zero hb F (K.key xs hx)
  have hb1 : (setBlock w b (.map es1 clock1)).heap[b]? = some (.map es1 clock1) := ChangeMaps.heap_setBlock_same hb _
  obtain ⟨es', clock', hs1, hs2⟩ := hst (setBlock w b (.map es1 clock1)) (.int .i64 ((L.count xs : Nat) + 1)) hb1
  have esq : setBlock (setBlock w b (.map es1 clock1)) b (.map es' clock') = setBlock w b (.map es' clock') := by
    unfold setBlock; simp [Array.setIfInBounds_setIfInBounds]
  rw [esq] at hs1
  refine ⟨v0, st, _, _, hrun, ?_, hs1, ?_, ⟨rfl, rfl, rfl, by simp [setBlock], fun i _ hi => ChangeMaps.heap_setBlock_other hb _ (fun e => hi (by rw [e]))⟩⟩
  · have hat1 : At P k e n (setBlock w b (.map es1 clock1)) b L ∨ (L.count xs = 0 ∧ ∃ D1 : DataW Unit, (setBlock w b (.map es1 clock1)).ownsMap P k (plainElem P e) b (L.length + 1) (D1.put (keyL xs) (.lit (.int .i64 0))) ∧ Maps.IsMap D1) := by
      rcases (Keyed.of_law K.law).find w (K.key xs hx) es.toList F.keys with ⟨f1, f2⟩ | ⟨j, e0, f1, f2, f3⟩
      · right
        have r1 : (Instr.mapEntry t (.map (some b)) (keyV xs)).run P w = .ok (.tuple #[.int .i64 0, goInt clock]) (setBlock w b (.map (es.push ⟨keyV xs, .int .i64 0, clock⟩) (clock + 1))) := by
          simp [Instr.mapEntry, run_underlying K.ht, MapKept.run_getObj_map hb, K.law.check w false (K.key xs hx), f1, K.zero, MapKept.run_setObj_map _ hb, Result.andThen, setBlock]
        have r2 : (Instr.mapUpdate t (.map (some b)) (keyV xs) (.int .i64 0)).run P w = .ok () (setBlock w b (.map (es.push ⟨keyV xs, .int .i64 0, clock⟩) (clock + 1))) := by
          simp [Instr.mapUpdate, run_underlying K.ht, MapKept.run_getObj_map hb, K.law.check w false (K.key xs hx), f1, MapKept.run_setObj_map _ hb, Result.andThen, setBlock]
        have ew : setBlock w b (.map es1 clock1) = setBlock w b (.map (es.push ⟨keyV xs, .int .i64 0, clock⟩) (clock + 1)) := by
          rw [hrun] at r1
          injection r1
        have hown : w.ownsMap P k (plainElem P e) b L.length D := ⟨es, clock, hb, F, hs, hD⟩
        have hlen : L.length < maxLen := hL
        obtain ⟨w', u1, u2, _⟩ := hown.update (Keyed.of_law K.law) K.ht hlen (K.key xs hx) (plainElem_int (H := Unit) K.he (a := 0) (by decide))
        have : w' = setBlock w b (.map es1 clock1) := by
          rw [r2] at u1
          injection u1 with _ u1
          rw [ew, u1]
        rw [this] at u2
        refine ⟨?_, D, u2, hown.isMap⟩
        rcases Maps.fit_look false (Keyed.of_law K.law) K.ht (K.zero w) hb F (K.key xs hx) with ⟨_, _, hat⟩ | ⟨e1, y, hm, hk1, _⟩
        · have := h2 xs hx
          rw [hD, hat] at this
          injection this with this
          injection this with _ this
          omega
        · exact absurd hk1 (f2 e1 hm)
      · left
        have hj : es[j]? = some e0 := by simpa using f2
        have hsame : es.modify j (fun e => { e with key := keyV xs }) = es := by
          apply Array.ext'
          rw [Array.toList_modify, ChangeMaps.modify_eq_set _ _ _ _ f2]
          have : ({ e0 with key := keyV xs } : MapEntry) = e0 := by rw [← f3]
          rw [this]
          exact WideElems.set_self _ _ _ f2
        have r1 : (Instr.mapEntry t (.map (some b)) (keyV xs)).run P w = .ok (.tuple #[e0.val, goInt e0.born]) (setBlock w b (.map es clock)) := by
          simp [Instr.mapEntry, run_underlying K.ht, MapKept.run_getObj_map hb, K.law.check w false (K.key xs hx), f1, hj, f3, K.law.stays w (K.key xs hx), hsame, MapKept.run_setObj_map _ hb, Result.andThen, setBlock]
        have ew : setBlock w b (.map es1 clock1) = setBlock w b (.map es clock) := by
          rw [hrun] at r1
          injection r1
        rw [ew]
        exact ⟨D, ⟨es, clock, ChangeMaps.heap_setBlock_same hb _, F, hs, hD⟩, h2, h3, h4⟩
    rcases hat1 with h1 | ⟨h1, D1, hm1, hm2⟩
    · exact h1.look K hx
    · obtain ⟨c, hr, hc, _⟩ := hm1.lookup_int (Keyed.of_law K.law) K.ht K.he (K.zero _) (K.key xs hx)
      rw [Maps.atKey_put_same hm2 ((Keyed.of_law K.law).key (K.key xs hx))] at hc
      simp only [DataW.lit.injEq, Lit.int.injEq, true_and] at hc
      rw [hr, h1, ← hc]
      rfl
  · refine h0.more K hL hx fun D hown hwf => ?_
    obtain ⟨w', u1, u2, _⟩ := hown.update (Keyed.of_law K.law) K.ht hL (K.key xs hx) (plainElem_int (H := Unit) K.he hwf)
    have : w' = setBlock w b (.map es' clock') := by
      rw [hs2] at u1
      simp only [Result.ok.injEq, true_and] at u1
      exact u1.symm
    rw [this] at u2
    exact u2
end Ct
end Go.Proofs.Ytmebchgjofpepaa
