/-
  The plain law of the sum: the step of one bit is linear and one-to-one; rows of bytes that differ within four side by side have unlike sums; the sums of three rows as long, changed by one another, are that of the rows changed so. No program in sight.
-/
import Derived.Laws.BitsAllLaws
namespace Go.Proofs.Ytfmoolnoalomeaa.Crc

def poly : BitVec 32 := 0xedb88320#32
/-- One bit. -/
def stp (s : BitVec 32) : BitVec 32 := (s >>> 1) ^^^ (if s.getLsbD 0 then poly else 0#32)
def stp8 (s : BitVec 32) : BitVec 32 := stp (stp (stp (stp (stp (stp (stp (stp s)))))))
/-- A row of bytes. -/
def run (s : BitVec 32) : List (BitVec 32) → BitVec 32
  | [] => s
  | b :: l => run (stp8 (s ^^^ b)) l

theorem xor4 (a b c d : BitVec 32) : (a ^^^ b) ^^^ (c ^^^ d) = (a ^^^ c) ^^^ (b ^^^ d) := by
  ext i hi; simp; cases a[i] <;> cases b[i] <;> cases c[i] <;> cases d[i] <;> rfl

theorem stp_xor (a b : BitVec 32) : stp (a ^^^ b) = stp a ^^^ stp b := by
  unfold stp
  rw [BitVec.ushiftRight_xor_distrib, BitVec.getLsbD_xor, xor4]
  congr 1
  cases a.getLsbD 0 <;> cases b.getLsbD 0 <;> simp

theorem stp8_xor (a b : BitVec 32) : stp8 (a ^^^ b) = stp8 a ^^^ stp8 b := by
  unfold stp8; simp only [stp_xor]

theorem stp_zero : stp 0#32 = 0#32 := by decide
theorem stp8_zero : stp8 0#32 = 0#32 := by decide

theorem run_xor : ∀ (l m : List (BitVec 32)) (s t : BitVec 32), l.length = m.length → run (s ^^^ t) (List.zipWith (· ^^^ ·) l m) = run s l ^^^ run t m
  | [], [], s, t, _ => rfl
  | a :: l, b :: m, s, t, h => by
    simp only [List.zipWith_cons_cons, run]
    rw [xor4, stp8_xor]
    exact run_xor l m _ _ (by simpa using h)
  | [], _ :: _, _, _, h => by simp at h
  | _ :: _, [], _, _, h => by simp at h

theorem getLsbD_shr (s : BitVec 32) (i : Nat) : (s >>> 1).getLsbD i = s.getLsbD (1 + i) := by simp [BitVec.getLsbD_ushiftRight]

theorem low_of_msb {s : BitVec 32} (h : (stp s).getLsbD 31 = false) : s.getLsbD 0 = false := by
  unfold stp at h
  rw [BitVec.getLsbD_xor, getLsbD_shr] at h
  have h32 : s.getLsbD (1 + 31) = false := BitVec.getLsbD_of_ge _ _ (by omega)
  rw [h32] at h
  cases hs : s.getLsbD 0
  · rfl
  · rw [hs] at h; simp [poly] at h

theorem msb_of_lt {t : BitVec 32} (h : t.toNat < 2147483648) : t.getLsbD 31 = false := by
  rw [BitVec.getLsbD, Nat.testBit_lt_two_pow]; simpa using h

theorem even_of {s : BitVec 32} (h : s.getLsbD 0 = false) : s.toNat % 2 = 0 := by
  have : s.toNat.testBit 0 = false := h
  rw [Nat.testBit_zero] at this
  simpa using this

/-- The way back, where the highest bit is off. -/
theorem back {s : BitVec 32} (h : (stp s).toNat < 2147483648) : s.toNat = 2 * (stp s).toNat := by
  have h0 := low_of_msb (msb_of_lt h)
  have he := even_of h0
  have : stp s = s >>> 1 := by unfold stp; rw [h0]; simp
  rw [this, BitVec.toNat_ushiftRight, Nat.shiftRight_eq_div_pow]
  omega

theorem back8 {s : BitVec 32} (h : (stp8 s).toNat < 16777216) : s.toNat = 256 * (stp8 s).toNat := by
  unfold stp8 at h ⊢
  have h1 := back (s := stp (stp (stp (stp (stp (stp (stp s))))))) (by omega)
  have h2 := back (s := stp (stp (stp (stp (stp (stp s)))))) (by omega)
  have h3 := back (s := stp (stp (stp (stp (stp s))))) (by omega)
  have h4 := back (s := stp (stp (stp (stp s)))) (by omega)
  have h5 := back (s := stp (stp (stp s))) (by omega)
  have h6 := back (s := stp (stp s)) (by omega)
  have h7 := back (s := stp s) (by omega)
  have h8 := back (s := s) (by omega)
  omega

theorem stp8_inj {s : BitVec 32} (h : stp8 s = 0#32) : s = 0#32 := by
  have := back8 (s := s) (by rw [h]; decide)
  rw [h] at this
  exact BitVec.eq_of_toNat_eq (by simpa using this)

theorem run_zeros : ∀ (n : Nat) (s : BitVec 32), run s (List.replicate n 0#32) = 0#32 → s = 0#32
  | 0, s, h => h
  | n + 1, s, h => by
    simp only [List.replicate_succ, run, BitVec.xor_zero] at h
    exact stp8_inj (run_zeros n _ h)

theorem run_zeros_zero : ∀ (n : Nat), run 0#32 (List.replicate n 0#32) = 0#32
  | 0 => rfl
  | n + 1 => by
    simp only [List.replicate_succ, run, BitVec.xor_zero, stp8_zero]
    exact run_zeros_zero n

theorem run_append : ∀ (l m : List (BitVec 32)) (s : BitVec 32), run s (l ++ m) = run (run s l) m
  | [], _, _ => rfl
  | _ :: l, m, s => by simp only [List.cons_append, run]; exact run_append l m _

theorem xor_back {s b : BitVec 32} (h : s ^^^ b = 0#32) : s = b := by
  have := congrArg (· ^^^ b) h
  simpa [BitVec.xor_assoc] using this

/-- The carry of what came before: at most k bytes' worth. -/
theorem lt_xor {a b : BitVec 32} {k : Nat} (ha : a.toNat < 2 ^ k) (hb : b.toNat < 2 ^ k) : (a ^^^ b).toNat < 2 ^ k := by
  rw [BitVec.toNat_xor]; exact Nat.xor_lt_two_pow ha hb

theorem xor_low (a b : Nat) (h : b < 256) : 256 * a ^^^ b = 256 * a + b := by
  have hm : (256 * a ^^^ b) % 2 ^ 8 = b := by
    rw [Nat.xor_mod_two_pow, show (256 * a) % 2 ^ 8 = 0 by omega, show b % 2 ^ 8 = b by omega, Nat.zero_xor]
  have hd : (256 * a ^^^ b) / 2 ^ 8 = a := by
    rw [Nat.xor_div_two_pow, show (256 * a) / 2 ^ 8 = a by omega, show b / 2 ^ 8 = 0 by omega, Nat.xor_zero]
  omega

/-- UP TO FOUR BYTES out of nothing give nothing only if each is nothing. -/
theorem run_four (d0 d1 d2 d3 : BitVec 32) (h0 : d0.toNat < 256) (h1 : d1.toNat < 256) (h2 : d2.toNat < 256) (h3 : d3.toNat < 256)
    (h : run 0#32 [d0, d1, d2, d3] = 0#32) : d0 = 0#32 ∧ d1 = 0#32 ∧ d2 = 0#32 ∧ d3 = 0#32 := by
  simp only [run, BitVec.zero_xor] at h
  have e3 := xor_back (stp8_inj h)
  have b3 := back8 (s := stp8 (stp8 d0 ^^^ d1) ^^^ d2) (by rw [e3]; omega)
  rw [e3] at b3
  -- the state ahead of the fourth byte
  generalize hx : stp8 (stp8 d0 ^^^ d1) ^^^ d2 = x at b3
  have e2 : stp8 (stp8 d0 ^^^ d1) = x ^^^ d2 := by rw [← hx, BitVec.xor_assoc, BitVec.xor_self, BitVec.xor_zero]
  have l2 : (x ^^^ d2).toNat < 2 ^ 16 := lt_xor (by omega) (by omega)
  have m2 : (x ^^^ d2).toNat = x.toNat + d2.toNat := by
    rw [BitVec.toNat_xor, b3, xor_low _ _ h2]
  have b2 := back8 (s := stp8 d0 ^^^ d1) (by rw [e2]; omega)
  rw [e2] at b2
  generalize hy : stp8 d0 ^^^ d1 = y at b2
  have e1 : stp8 d0 = y ^^^ d1 := by rw [← hy, BitVec.xor_assoc, BitVec.xor_self, BitVec.xor_zero]
  have m1 : (y ^^^ d1).toNat = y.toNat + d1.toNat := by
    rw [BitVec.toNat_xor, b2, xor_low _ _ h1]
  have b1 := back8 (s := d0) (by rw [e1]; omega)
  rw [e1] at b1
  refine ⟨BitVec.eq_of_toNat_eq ?_, BitVec.eq_of_toNat_eq ?_, BitVec.eq_of_toNat_eq ?_, BitVec.eq_of_toNat_eq ?_⟩ <;> simp <;> omega

end Go.Proofs.Ytfmoolnoalomeaa.Crc
