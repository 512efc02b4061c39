/-
  The document's functions of the seat, and that they compute what the program's compute.
-/
import Derived.Test.YtdgpiobmncohjaaDoorPChk
set_option linter.unusedSimpArgs false
set_option linter.unusedVariables false
namespace Go.Proofs.YtdgpiobmncohjaaDoor.Aw
open Go.RowKit

def bitOf (b : UInt8) (k : Nat) : BitVec 32 := BitVec.ofNat 32 (b.toNat >>> k) &&& 1#32
def bitS (b : UInt8) (r : BitVec 32) (k : Nat) : BitVec 32 := if r >>> 31 = bitOf b k then r <<< 1 else (r <<< 1) ^^^ 79764919#32
/-- 'n' bits of a byte, from the highest. -/
def bitsS (b : UInt8) (r : BitVec 32) : Nat → BitVec 32
  | 0 => r
  | n + 1 => bitS b (bitsS b r n) (7 - n)

theorem shr31 (x : BitVec 32) : x >>> 31 = if x.getLsbD 31 then 1#32 else 0#32 := by
  apply BitVec.eq_of_getLsbD_eq
  intro i hi
  rw [BitVec.getLsbD_ushiftRight]
  by_cases h : x.getLsbD 31 = true
  · rw [if_pos h]
    by_cases h0 : i = 0
    · subst h0; rw [h]; decide
    · rw [BitVec.getLsbD_of_ge x _ (by omega)]; simp [BitVec.getLsbD_one]; omega
  · rw [if_neg h]
    by_cases h0 : i = 0
    · subst h0; simpa using h
    · rw [BitVec.getLsbD_of_ge x _ (by omega)]; simp

theorem and1 (n : Nat) : BitVec.ofNat 32 n &&& 1#32 = if n.testBit 0 then 1#32 else 0#32 := by
  apply BitVec.eq_of_getLsbD_eq
  intro i hi
  rw [BitVec.getLsbD_and, BitVec.getLsbD_ofNat]
  by_cases h0 : i = 0
  · subst h0; cases h : n.testBit 0 <;> simp
  · have : (1#32).getLsbD i = false := by simp [BitVec.getLsbD_one]; omega
    rw [this, Bool.and_false]
    split <;> simp [this]

theorem bits_step (b : UInt8) (r : BitVec 32) : ∀ n, n ≤ 8 → stepN n (r ^^^ (BitVec.setWidth 32 b.toBitVec <<< 24)) = bitsS b r n ^^^ (BitVec.setWidth 32 b.toBitVec <<< (24 + n))
  | 0, _ => rfl
  | n + 1, hn => by
    rw [stepN_succ, bits_step b r n (by omega), bitsS, step1, bitS]
    have hb : (bitsS b r n ^^^ (BitVec.setWidth 32 b.toBitVec <<< (24 + n))).getLsbD 31 = ((bitsS b r n).getLsbD 31 ^^ b.toNat.testBit (7 - n)) := by
      rw [BitVec.getLsbD_xor, BitVec.getLsbD_shiftLeft, BitVec.getLsbD_setWidth]
      have h1 : decide (31 < 32) = true := by decide
      have h2 : decide (31 < 24 + n) = false := by simp; omega
      have h3 : decide (31 - (24 + n) < 32) = true := by simp; omega
      rw [h1, h2, h3, show 31 - (24 + n) = 7 - n by omega]
      simp [BitVec.getLsbD]
    have hs : (bitsS b r n ^^^ (BitVec.setWidth 32 b.toBitVec <<< (24 + n))) <<< 1 = (bitsS b r n <<< 1) ^^^ (BitVec.setWidth 32 b.toBitVec <<< (24 + (n + 1))) := by
      rw [BitVec.shiftLeft_xor_distrib, ← BitVec.shiftLeft_add, show 24 + n + 1 = 24 + (n + 1) by omega]
    rw [shr31, hb, shr31 (bitsS b r n), bitOf, and1, hs, Nat.testBit_shiftRight, Nat.add_zero]
    cases (bitsS b r n).getLsbD 31 <;> cases b.toNat.testBit (7 - n) <;> simp <;> rw [BitVec.xor_assoc, BitVec.xor_assoc, BitVec.xor_comm (BitVec.setWidth 32 b.toBitVec <<< _)]

theorem bits_next (b : UInt8) (r : BitVec 32) : bitsS b r 8 = nextS r b := by
  rw [nextS, bits_step b r 8 (by omega)]
  have : BitVec.setWidth 32 b.toBitVec <<< (24 + 8) = 0#32 := BitVec.shiftLeft_eq_zero (by omega)
  rw [this]; simp

theorem shr8 (b : UInt8) (n : Nat) : shI .shr .u8 (b.toNat : Int) (n : Int) = some (.int .u8 ((b.toNat >>> n : Nat) : Int)) := by
  simp only [shI, IntKind.bits]
  rw [if_neg (by omega), Int.toNat_natCast, shr_eqI, shr_min (a := b.toNat) (n := 8) b.toBitVec.isLt]

theorem wrap32_nat (n : Nat) : IntKind.u32.wrap (n : Int) = ((BitVec.ofNat 32 n).toNat : Int) := by rw [wrap32, BitVec.ofInt_natCast]

theorem toNat_bne (a b : BitVec 32) : ((a.toNat : Int) != (b.toNat : Int)) = !(a == b) := by rw [bne, toNat_beq]

theorem ones32 : (4294967295 : Int) = ((BitVec.allOnes 32).toNat : Int) := by decide
theorem xor_ones (x : BitVec 32) : x ^^^ BitVec.ofInt 32 ((BitVec.allOnes 32).toNat : Int) = ~~~ x := by
  rw [ofInt_toNat32]; exact BitVec.xor_allOnes

theorem quo32 (c : BitVec 32) (k : Nat) (hk : k < 32) : IntKind.u32.wrap ((c.toNat : Int).tdiv ((2 ^ k : Nat) : Int)) = ((c >>> k).toNat : Int) := by
  rw [Int.tdiv_eq_ediv_of_nonneg (by omega), ← Int.natCast_ediv, wrap32_nat, BitVec.toNat_ushiftRight, Nat.shiftRight_eq_div_pow, BitVec.toNat_ofNat, Nat.mod_eq_of_lt]
  exact Nat.lt_of_le_of_lt (Nat.div_le_self _ _) c.isLt

theorem rem32 (c : BitVec 32) : IntKind.u8.wrap ((c.toNat : Int).tmod 256) = ((low8 c).toNat : Int) := by
  have e : (2 : Int) ^ 8 = 256 := by decide
  rw [Int.tmod_eq_emod_of_nonneg (by omega)]
  simp only [IntKind.wrap, IntKind.bits, IntKind.signed, Bool.false_and, e]
  show (c.toNat : Int) % 256 % 256 = _
  rw [low8, UInt8.toNat_ofNat']; omega

theorem open_seal (s : List UInt8) : openS (sealS s) = (s, 0) := by
  have h := seal_len s
  have h1 : (sealS s).length - 4 = s.length := by omega
  have h2 : (sealS s).take s.length = s := by simp [sealS]
  rw [openS, if_neg (by omega), h1, h2, if_pos rfl]

end Go.Proofs.YtdgpiobmncohjaaDoor.Aw
