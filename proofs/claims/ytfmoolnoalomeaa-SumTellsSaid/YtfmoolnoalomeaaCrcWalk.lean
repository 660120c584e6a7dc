/-
  The walk of the sum over bytes: the program's own and the reference's; what the layer asks of itself ('awake').
-/
import Derived.Test.YtfmoolnoalomeaaKit
import Derived.Test.YtfmoolnoalomeaaCrcPlain
namespace Go.Proofs.Ytfmoolnoalomeaa
open Go.RowKit
set_option linter.unusedVariables false

namespace Crc
def stpN : Nat → BitVec 32 → BitVec 32
  | 0, s => s
  | n + 1, s => stp (stpN n s)
theorem stp8_eq (s : BitVec 32) : stpN 8 s = stp8 s := rfl

def start : BitVec 32 := 4294967295#32
def of (zs : List Int) : BitVec 32 := ~~~ run start (zs.map (BitVec.ofInt 32))

theorem ofInt_nat (x : BitVec 32) : BitVec.ofInt 32 (x.toNat : Int) = x := by simp
theorem w32 (x : BitVec 32) : IntKind.u32.wrap (x.toNat : Int) = (x.toNat : Int) := by
  rw [IntKind.wrap_u32']; have := x.isLt; omega
theorem bxor (x y : BitVec 32) : bits .xor .u32 (x.toNat : Int) (y.toNat : Int) = ((x ^^^ y).toNat : Int) := by
  show IntKind.u32.wrap ((BitVec.ofInt 32 (x.toNat : Int) ^^^ BitVec.ofInt 32 (y.toNat : Int)).toNat : Int) = _
  rw [ofInt_nat, ofInt_nat, w32]
theorem byte_of {z : Int} (h0 : 0 ≤ z) (h1 : z ≤ 255) : ((BitVec.ofInt 32 z).toNat : Int) = z := by
  rw [BitVec.toNat_ofInt]; omega
theorem bxor_byte (x : BitVec 32) {z : Int} (h0 : 0 ≤ z) (h1 : z ≤ 255) : bits .xor .u32 (x.toNat : Int) z = ((x ^^^ BitVec.ofInt 32 z).toNat : Int) := by
  rw [← bxor, byte_of h0 h1]
theorem band (x y : BitVec 32) : bits .and .u32 (x.toNat : Int) (y.toNat : Int) = ((x &&& y).toNat : Int) := by
  show IntKind.u32.wrap ((BitVec.ofInt 32 (x.toNat : Int) &&& BitVec.ofInt 32 (y.toNat : Int)).toNat : Int) = _
  rw [ofInt_nat, ofInt_nat, w32]
theorem and_one (x : BitVec 32) : x &&& 1#32 = if x.getLsbD 0 then 1#32 else 0#32 := by
  apply BitVec.eq_of_getLsbD_eq
  intro i hi
  rw [BitVec.getLsbD_and]
  by_cases h0 : i = 0
  · subst h0; cases x.getLsbD 0 <;> simp
  · have e1 : (1#32).getLsbD i = false := by
      rw [BitVec.getLsbD_one]; simp [h0]
    rw [e1]; cases x.getLsbD 0 <;> simp [e1]
theorem bstep (x : BitVec 32) : bits BinOp.xor IntKind.u32 ((x.toNat : Int) / 2) (bits BinOp.and IntKind.u32 3988292384 (-bits BinOp.and IntKind.u32 (x.toNat : Int) 1 % 4294967296)) = ((stp x).toNat : Int) := by
  have h1 : bits BinOp.and IntKind.u32 (x.toNat : Int) 1 = ((x &&& 1#32).toNat : Int) := band x 1#32
  have h2 : ((x.toNat : Int) / 2) = ((x >>> 1).toNat : Int) := by
    rw [BitVec.toNat_ushiftRight, Nat.shiftRight_eq_div_pow]; simp
  have h3 : bits BinOp.and IntKind.u32 3988292384 (-bits BinOp.and IntKind.u32 (x.toNat : Int) 1 % 4294967296) = (((if x.getLsbD 0 then poly else 0#32) : BitVec 32).toNat : Int) := by
    rw [h1, and_one]
    cases x.getLsbD 0
    · show bits BinOp.and IntKind.u32 3988292384 (-(0 : Int) % 4294967296) = 0
      decide
    · show bits BinOp.and IntKind.u32 3988292384 (-(1 : Int) % 4294967296) = 3988292384
      decide
  rw [h3]; exact (congrArg (fun n => bits BinOp.xor IntKind.u32 n _) h2).trans (bxor _ _)
theorem band_one (x : BitVec 32) : bits BinOp.and IntKind.u32 (x.toNat : Int) 1 = if x.getLsbD 0 then 1 else 0 := by
  rw [show bits BinOp.and IntKind.u32 (x.toNat : Int) 1 = ((x &&& 1#32).toNat : Int) from band x 1#32, and_one]
  cases x.getLsbD 0 <;> rfl
theorem half (x : BitVec 32) : ((x.toNat : Int) / (2 : Int)) = ((x >>> 1).toNat : Int) := by
  rw [BitVec.toNat_ushiftRight, Nat.shiftRight_eq_div_pow]; simp
theorem bstep_one (x : BitVec 32) (h : (bits BinOp.and IntKind.u32 (x.toNat : Int) 1 == 1) = true) : bits BinOp.xor IntKind.u32 ((x.toNat : Int) / 2) 3988292384 = ((stp x).toNat : Int) := by
  rw [band_one] at h
  have hb : x.getLsbD 0 = true := by
    cases hx : x.getLsbD 0
    · rw [hx] at h; simp at h
    · rfl
  rw [half]
  unfold stp
  rw [hb]
  exact bxor _ poly
theorem bstep_zero (x : BitVec 32) (h : (bits BinOp.and IntKind.u32 (x.toNat : Int) 1 == 1) = false) : ((x.toNat : Int) / 2) = ((stp x).toNat : Int) := by
  rw [band_one] at h
  have hb : x.getLsbD 0 = false := by
    cases hx : x.getLsbD 0
    · rfl
    · rw [hx] at h; simp at h
  rw [half]
  unfold stp
  rw [hb]
  simp
end Crc
theorem Crc.run_take (zs : List Int) (k : Nat) (hk : k < zs.length) : Crc.run Crc.start ((zs.take (k + 1)).map (BitVec.ofInt 32)) = Crc.stp8 (Crc.run Crc.start ((zs.take k).map (BitVec.ofInt 32)) ^^^ BitVec.ofInt 32 (zs.getD k 0)) := by
  rw [List.take_succ_eq_append_getElem hk, List.map_append, Crc.run_append]
  simp [Crc.run, List.getD, List.getElem?_eq_getElem hk]
theorem Crc.bnot (x : BitVec 32) : bits BinOp.xor IntKind.u32 IntKind.u32.max (x.toNat : Int) = ((~~~x).toNat : Int) := by
  have h : IntKind.u32.max = ((4294967295#32 : BitVec 32).toNat : Int) := by decide
  rw [h, bxor]
  have e : 4294967295#32 = BitVec.allOnes 32 := by decide
  rw [e, BitVec.allOnes_xor]
theorem Crc.of_all (zs : List Int) (k : Nat) (h : zs.length = k) : bits BinOp.xor IntKind.u32 IntKind.u32.max ((Crc.run Crc.start ((zs.map (BitVec.ofInt 32)).take k)).toNat : Int) = ((Crc.of zs).toNat : Int) := by
  rw [Crc.bnot, List.take_of_length_le (by simp; omega)]; rfl
set_option maxHeartbeats 400000 in
theorem crc_any (a : Option Addr) (len cap : Nat) (zs : List Int) (w : World) (h : RowAt .u8 w a len zs) :
    Calls Try.prog 14 #[.slice a len cap] w fun e w' => e = .returned (.int .u32 (Crc.of zs).toNat) ∧ w = w' := by
  obtain ⟨hl, hbig, hwf, hcell⟩ := h
  go_enter Try.func14, Try.ntmps14
  go_hidden (go_wp2)
  go_loop [3, 8] (fun s i => ∃ (k : Nat), k ≤ len ∧ i = .int .i64 k ∧ s = .int .u32 (Crc.run Crc.start ((zs.take k).map (BitVec.ofInt 32))).toNat) (fun _ i => len - (intOf i).toNat)
  case atStart => exact ⟨0, Nat.zero_le _, rfl, rfl⟩
  case round =>
    obtain ⟨k, hk, rfl, rfl⟩ := hrel
    by_cases hlt : k < len
    · obtain ⟨b, off, rfl, hc⟩ : ∃ b off, a = some ⟨b, off, none⟩ ∧ ∀ j, j < len → w.cell? ⟨b, off + j, none⟩ = some (.int .u8 (zs.getD j 0)) := by
        rcases hcell with h0 | h0
        · omega
        · exact h0
      clear hcell
      have hck := hc k hlt
      have hstep := Lib.hid (Crc.run_take zs k (by omega))
      generalize hx : Crc.run Crc.start ((zs.take k).map (BitVec.ofInt 32)) = x at *
      generalize hz : zs.getD k 0 = z at *
      have HX := Lib.hid hx
      have HZ := Lib.hid hz
      clear hx hz
      have hz0 : 0 ≤ z ∧ z ≤ 255 := by
        have := hwf z (by rw [← HZ.out]; simp [List.getD, List.getElem?_eq_getElem (show k < zs.length by omega)])
        exact bounds_u8 this
      obtain ⟨hz0, hz1⟩ := hz0
      go_hidden (go_wp2)
      go_loop [3, 16] (fun s j => ∃ m : Nat, m ≤ 8 ∧ j = .int .i64 m ∧ s = .int .u32 (Crc.stpN m (x ^^^ BitVec.ofInt 32 z)).toNat) (fun _ j => 8 - (intOf j).toNat)
      case atStart => exact ⟨0, by omega, rfl, congrArg (Value.int .u32) (Crc.bxor_byte x hz0 hz1)⟩
      case round =>
        obtain ⟨m, hm, rfl, rfl⟩ := hrel
        by_cases hm8 : m < 8
        · go_hidden (go_wp2)
          go_round
          case rel => exact ⟨m + 1, by omega, by go_num, congrArg (Value.int .u32) (Crc.bstep _)⟩
          case measure => simp [intOf]; omega
        · obtain rfl : m = 8 := by omega
          go_hidden (go_wp2)
          go_round
          case rel => exact ⟨k + 1, by omega, by go_num, by rw [hstep.out, Crc.stp8_eq]⟩
          case measure => simp [intOf]; omega
    · go_hidden (go_wp2)
      obtain rfl : k = len := by omega
      go_ret
      exact ⟨ret_int (Crc.of_all zs k hl), rfl⟩
set_option maxHeartbeats 400000 in
theorem refcrc_any (a : Option Addr) (len cap : Nat) (zs : List Int) (w : World) (h : RowAt .u8 w a len zs) :
    Calls Try.prog 15 #[.slice a len cap] w fun e w' => e = .returned (.int .u32 (Crc.of zs).toNat) ∧ w = w' := by
  obtain ⟨hl, hbig, hwf, hcell⟩ := h
  go_enter Try.func15, Try.ntmps15
  go_hidden (go_wp2)
  go_loop [3, 8] (fun s i => ∃ (k : Nat), k ≤ len ∧ i = .int .i64 k ∧ s = .int .u32 (Crc.run Crc.start ((zs.take k).map (BitVec.ofInt 32))).toNat) (fun _ i => len - (intOf i).toNat)
  case atStart => exact ⟨0, Nat.zero_le _, rfl, rfl⟩
  case round =>
    obtain ⟨k, hk, rfl, rfl⟩ := hrel
    by_cases hlt : k < len
    · obtain ⟨b, off, rfl, hc⟩ : ∃ b off, a = some ⟨b, off, none⟩ ∧ ∀ j, j < len → w.cell? ⟨b, off + j, none⟩ = some (.int .u8 (zs.getD j 0)) := by
        rcases hcell with h0 | h0
        · omega
        · exact h0
      clear hcell
      have hck := hc k hlt
      have hstep := Lib.hid (Crc.run_take zs k (by omega))
      generalize hx : Crc.run Crc.start ((zs.take k).map (BitVec.ofInt 32)) = x at *
      generalize hz : zs.getD k 0 = z at *
      have HX := Lib.hid hx
      have HZ := Lib.hid hz
      clear hx hz
      have hz0 : 0 ≤ z ∧ z ≤ 255 := by
        have := hwf z (by rw [← HZ.out]; simp [List.getD, List.getElem?_eq_getElem (show k < zs.length by omega)])
        exact bounds_u8 this
      obtain ⟨hz0, hz1⟩ := hz0
      go_hidden (go_wp2)
      go_loop [3, 16] (fun s j => ∃ m : Nat, m ≤ 8 ∧ j = .int .i64 m ∧ s = .int .u32 (Crc.stpN m (x ^^^ BitVec.ofInt 32 z)).toNat) (fun _ j => 8 - (intOf j).toNat)
      case atStart => exact ⟨0, by omega, rfl, congrArg (Value.int .u32) (Crc.bxor_byte x hz0 hz1)⟩
      case round =>
        obtain ⟨m, hm, rfl, rfl⟩ := hrel
        by_cases hm8 : m < 8
        · go_hidden (go_wp2)
          · go_round
            case rel => exact ⟨m + 1, by omega, by go_num, congrArg (Value.int .u32) (Crc.bstep_one _ (by assumption))⟩
            case measure => simp [intOf]; omega
          · go_round
            case rel => exact ⟨m + 1, by omega, by go_num, congrArg (Value.int .u32) (Crc.bstep_zero _ (by assumption))⟩
            case measure => simp [intOf]; omega
        · obtain rfl : m = 8 := by omega
          go_hidden (go_wp2)
          go_round
          case rel => exact ⟨k + 1, by omega, by go_num, by rw [hstep.out, Crc.stp8_eq]⟩
          case measure => simp [intOf]; omega
    · go_hidden (go_wp2)
      obtain rfl : k = len := by omega
      go_ret
      exact ⟨ret_int (Crc.of_all zs k hl), rfl⟩
/-- The sum that every program must know. -/
theorem Crc.known : Crc.of [49, 50, 51, 52, 53, 54, 55, 56, 57] = 0xcbf43926#32 := by decide +kernel
set_option maxHeartbeats 400000 in
theorem awake4_any (w : World) : Calls Try.prog 16 #[] w fun e w' => e = .returned (.bool true) ∧ Below w.heap.size w w' := by
  have kc := fun (w : World) (C : Array Value) (n c : Nat) => Lib.run_convert_bytes_const (P := Try.prog) w 22 5 C n c Try.underlying22 Try.underlying5
  have hk : ((((Crc.of [49, 50, 51, 52, 53, 54, 55, 56, 57]).toNat : Int)) == 3421780262) = true := by decide +kernel
  have hr := RowAt.new w .u8 5 (9, 10) [49, 50, 51, 52, 53, 54, 55, 56, 57] (by decide) (by decide)
  have HR := Lib.hid hr
  clear hr
  go_enter Try.func16, Try.ntmps16
  go_wp2_with (go_at_call 14; refine (crc_any _ _ _ _ _ HR.out).mono ?_; rintro e w' ⟨rfl, rfl⟩)
  go_ret
  exact ⟨rfl, by go_grown⟩

/-- THE STATEMENT's WALK. -/
theorem sumReckons_any (a : Option Addr) (len cap : Nat) (zs : List Int) (w : World) (h0 : IsRow .u8 1 w a len cap zs) :
    Calls Try.prog 3 #[.slice a len cap] w fun e w' => e = .returned (.bool true) ∧ Below w.heap.size w w' := by
  have H := Lib.hid (h0.at (Nat.le_refl _))
  clear h0
  go_enter Try.func3, Try.ntmps3
  go_wp2_with fail
  refine (crc_any _ _ _ _ _ H.out).mono ?_
  rintro e w' ⟨rfl, rfl⟩
  go_wp2_with fail
  refine (refcrc_any _ _ _ _ _ H.out).mono ?_
  rintro e w' ⟨rfl, rfl⟩
  go_wp2_with (go_at_call 16; refine (awake4_any _).mono ?_; rintro e w' ⟨rfl, hb⟩)
  go_ret
  exact ⟨rfl, hb⟩
end Go.Proofs.Ytfmoolnoalomeaa
