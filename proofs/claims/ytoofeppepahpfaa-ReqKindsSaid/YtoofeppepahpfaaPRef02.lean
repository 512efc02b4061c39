/-
  The document's functions of the seat, and that they compute what the program's compute.
-/
import Derived.Test.YtoofeppepahpfaaPChk
set_option linter.unusedSimpArgs false
set_option linter.unusedVariables false
namespace Go.Proofs.Ytoofeppepahpfaa.Aw
open Go.RowKit

def bitOf (b : UInt8) (k : Nat) : BitVec 32 := BitVec.ofNat 32 (b.toNat >>> k) &&& 1#32
def bitS (b : UInt8) (r : BitVec 32) (k : Nat) : BitVec 32 := if r >>> 31 = bitOf b k then r <<< 1 else (r <<< 1) ^^^ 79764919#32
/-- 'n' bits of a byte, from the highest. -/
def bitsS (b : UInt8) (r : BitVec 32) : Nat → BitVec 32
  | 0 => r
  | n + 1 => bitS b (bitsS b r n) (7 - n)

theorem shr31 (x : BitVec 32) : x >>> 31 = if x.getLsbD 31 then 1#32 else 0#32 := by
  apply BitVec.eq_of_getLsbD_eq
  intro i hi
  rw [BitVec.getLsbD_ushiftRight]
  by_cases h : x.getLsbD 31 = true
  · rw [if_pos h]
    by_cases h0 : i = 0
    · subst h0; rw [h]; decide
    · rw [BitVec.getLsbD_of_ge x _ (by omega)]; simp [BitVec.getLsbD_one]; omega
  · rw [if_neg h]
    by_cases h0 : i = 0
    · subst h0; simpa using h
    · rw [BitVec.getLsbD_of_ge x _ (by omega)]; simp

theorem and1 (n : Nat) : BitVec.ofNat 32 n &&& 1#32 = if n.testBit 0 then 1#32 else 0#32 := by
  apply BitVec.eq_of_getLsbD_eq
  intro i hi
  rw [BitVec.getLsbD_and, BitVec.getLsbD_ofNat]
  by_cases h0 : i = 0
  · subst h0; cases h : n.testBit 0 <;> simp
  · have : (1#32).getLsbD i = false := by simp [BitVec.getLsbD_one]; omega
    rw [this, Bool.and_false]
    split <;> simp [this]

theorem bits_step (b : UInt8) (r : BitVec 32) : ∀ n, n ≤ 8 → stepN n (r ^^^ (BitVec.setWidth 32 b.toBitVec <<< 24)) = bitsS b r n ^^^ (BitVec.setWidth 32 b.toBitVec <<< (24 + n))
  | 0, _ => rfl
  | n + 1, hn => by
    rw [stepN_succ, bits_step b r n (by omega), bitsS, step1, bitS]
    have hb : (bitsS b r n ^^^ (BitVec.setWidth 32 b.toBitVec <<< (24 + n))).getLsbD 31 = ((bitsS b r n).getLsbD 31 ^^ b.toNat.testBit (7 - n)) := by
      rw [BitVec.getLsbD_xor, BitVec.getLsbD_shiftLeft, BitVec.getLsbD_setWidth]
      have h1 : decide (31 < 32) = true := by decide
      have h2 : decide (31 < 24 + n) = false := by simp; omega
      have h3 : decide (31 - (24 + n) < 32) = true := by simp; omega
      rw [h1, h2, h3, show 31 - (24 + n) = 7 - n by omega]
      simp [BitVec.getLsbD]
    have hs : (bitsS b r n ^^^ (BitVec.setWidth 32 b.toBitVec <<< (24 + n))) <<< 1 = (bitsS b r n <<< 1) ^^^ (BitVec.setWidth 32 b.toBitVec <<< (24 + (n + 1))) := by
      rw [BitVec.shiftLeft_xor_distrib, ← BitVec.shiftLeft_add, show 24 + n + 1 = 24 + (n + 1) by omega]
    rw [shr31, hb, shr31 (bitsS b r n), bitOf, and1, hs, Nat.testBit_shiftRight, Nat.add_zero]
    cases (bitsS b r n).getLsbD 31 <;> cases b.toNat.testBit (7 - n) <;> simp <;> rw [BitVec.xor_assoc, BitVec.xor_assoc, BitVec.xor_comm (BitVec.setWidth 32 b.toBitVec <<< _)]

theorem bits_next (b : UInt8) (r : BitVec 32) : bitsS b r 8 = nextS r b := by
  rw [nextS, bits_step b r 8 (by omega)]
  have : BitVec.setWidth 32 b.toBitVec <<< (24 + 8) = 0#32 := BitVec.shiftLeft_eq_zero (by omega)
  rw [this]; simp

theorem shr8 (b : UInt8) (n : Nat) : shI .shr .u8 (b.toNat : Int) (n : Int) = some (.int .u8 ((b.toNat >>> n : Nat) : Int)) := by
  simp only [shI, IntKind.bits]
  rw [if_neg (by omega), Int.toNat_natCast, shr_eqI, shr_min (a := b.toNat) (n := 8) b.toBitVec.isLt]

theorem wrap32_nat (n : Nat) : IntKind.u32.wrap (n : Int) = ((BitVec.ofNat 32 n).toNat : Int) := by rw [wrap32, BitVec.ofInt_natCast]

theorem toNat_bne (a b : BitVec 32) : ((a.toNat : Int) != (b.toNat : Int)) = !(a == b) := by rw [bne, toNat_beq]

theorem divided_spec (r : BitVec 32) (s : List UInt8) (hs : s.length ≤ 1000000) : PCall Try.prog 55 [w32 r, .str s] (w32 (foldS r s)) := by
  refine pcall_go Try.func55 comp_ref02_divided ?_
  simp (config := {maxSteps := 4000000}) only [U_ref02_divided, reduceIte, reduceCtorEq, Nat.reduceEqDiff, Nat.reduceAdd, Int.reduceLT, Int.reduceLE, Int.reduceNeg, Int.reduceEq, Nat.reduceLT, Nat.reduceSub, Nat.reduceMul, Nat.reduceBEq, Nat.reduceLeDiff, Int.reduceBEq, Int.reduceBNe, Int.reduceToNat, ne_eq, implies_true, bA]
  refine loopF (fun i : Nat => ⟨ofL [(0, w32 (foldS r (s.take i))), (1, .str s), (5, .int .i64 i)], []⟩) (fun i => i ≤ s.length) (fun i => s.length - i) 0 ?_ (Nat.zero_le _) ?_
  · simp only [reduceIte, reduceCtorEq, Nat.reduceEqDiff, Nat.reduceAdd, Int.reduceLT, Int.reduceLE, Int.reduceNeg, Int.reduceEq, Nat.reduceLT, Nat.reduceSub, Nat.reduceMul, Nat.reduceBEq, Nat.reduceLeDiff, Int.reduceBEq, Int.reduceBNe, Int.reduceToNat, ne_eq, implies_true, bA]; rfl
  · intro i hi
    simp (config := {maxSteps := 4000000}) only [U_ref02_divided, reduceIte, reduceCtorEq, Nat.reduceEqDiff, Nat.reduceAdd, Int.reduceLT, Int.reduceLE, Int.reduceNeg, Int.reduceEq, Nat.reduceLT, Nat.reduceSub, Nat.reduceMul, Nat.reduceBEq, Nat.reduceLeDiff, Int.reduceBEq, Int.reduceBNe, Int.reduceToNat, ne_eq, implies_true, bA]
    refine ⟨fun h => ?_, fun h => ?_⟩
    · have hlt : i < s.length := by omega
      refine loopF (fun j : Nat => ⟨ofL [(0, w32 (bitsS s[i] (foldS r (s.take i)) j)), (1, .str s), (5, .int .i64 i), (6, .int .i64 (7 - j))], []⟩) (fun j => j ≤ 8) (fun j => 8 - j) 0 ?_ (by omega) ?_
      · simp only [reduceIte, reduceCtorEq, Nat.reduceEqDiff, Nat.reduceAdd, Int.reduceLT, Int.reduceLE, Int.reduceNeg, Int.reduceEq, Nat.reduceLT, Nat.reduceSub, Nat.reduceMul, Nat.reduceBEq, Nat.reduceLeDiff, Int.reduceBEq, Int.reduceBNe, Int.reduceToNat, ne_eq, implies_true, bA]; rfl
      · intro j hj
        simp (config := {maxSteps := 4000000}) only [U_ref02_divided, reduceIte, reduceCtorEq, Nat.reduceEqDiff, Nat.reduceAdd, Int.reduceLT, Int.reduceLE, Int.reduceNeg, Int.reduceEq, Nat.reduceLT, Nat.reduceSub, Nat.reduceMul, Nat.reduceBEq, Nat.reduceLeDiff, Int.reduceBEq, Int.reduceBNe, Int.reduceToNat, ne_eq, implies_true, bA]
        refine ⟨fun h => ?_, fun h => ?_⟩
        · have hj7 : j ≤ 7 := by omega
          have hk : (7 - (j : Int)) = ((7 - j : Nat) : Int) := by omega
          have hu : IntKind.u64.wrap ((7 - j : Nat) : Int) = ((7 - j : Nat) : Int) := wrapU (by omega) (by omega)
          have hd : IntKind.i64.wrap (((7 - j : Nat) : Int) - 1) = 7 - ((j + 1 : Nat) : Int) := by rw [wrapI (by omega) (by omega)]; omega
          simp (config := {maxSteps := 4000000}) only [U_ref02_divided, idxsV_at hlt, hk, hu, hd, shr8, wrap32_nat, and32, shr32', shl32', xor32, toNat_bne, reduceIte, reduceCtorEq, Nat.reduceEqDiff, Nat.reduceAdd, Int.reduceLT, Int.reduceLE, Int.reduceNeg, Int.reduceEq, Nat.reduceLT, Nat.reduceSub, Nat.reduceMul, Nat.reduceBEq, Nat.reduceLeDiff, Int.reduceBEq, Int.reduceBNe, Int.reduceToNat, ne_eq, implies_true, bA]
          refine ⟨fun h => ⟨j + 1, ?_, by omega, by omega⟩, fun h => ⟨j + 1, ?_, by omega, by omega⟩⟩
          · have hne : ¬ (bitsS s[i] (foldS r (s.take i)) j >>> 31 = bitOf s[i] (7 - j)) := fun e => by
              simp [bitOf] at e; simp [e] at h
            rw [bitsS, bitS, if_neg hne]; rfl
          · have he : bitsS s[i] (foldS r (s.take i)) j >>> 31 = bitOf s[i] (7 - j) := by
              simpa [bitOf] using h
            rw [bitsS, bitS, if_pos he]
        · have : j = 8 := by simp at h; omega
          subst this
          refine ⟨i + 1, ?_, by omega, by omega⟩
          rw [wrapI (by omega) (by omega), take_foldS hlt, bits_next]; rfl
    · have : i = s.length := by simp at h; omega
      subst this; simp only [List.take_length]

theorem ones32 : (4294967295 : Int) = ((BitVec.allOnes 32).toNat : Int) := by decide
theorem xor_ones (x : BitVec 32) : x ^^^ BitVec.ofInt 32 ((BitVec.allOnes 32).toNat : Int) = ~~~ x := by
  rw [ofInt_toNat32]; exact BitVec.xor_allOnes

theorem rsum_spec (s : List UInt8) (hs : s.length ≤ 1000000) : PCall Try.prog 47 [.str s] (w32 (sumS s)) := by
  refine pcall_go Try.func47 comp_ref02_Sum ?_
  simp (config := {maxSteps := 4000000}) only [U_ref02_Sum, ones32, xor32, xor_ones, reduceIte, reduceCtorEq, Nat.reduceEqDiff, Nat.reduceAdd, Int.reduceLT, Int.reduceLE, Int.reduceNeg, Int.reduceEq, Nat.reduceLT, Nat.reduceSub, Nat.reduceMul, Nat.reduceBEq, Nat.reduceLeDiff, Int.reduceBEq, Int.reduceBNe, Int.reduceToNat, ne_eq, implies_true, bA]
  refine callI (divided_spec _ s hs) ?_
  simp (config := {maxSteps := 4000000}) only [U_ref02_Sum, ones32, xor32, xor_ones, reduceIte, reduceCtorEq, Nat.reduceEqDiff, Nat.reduceAdd, Int.reduceLT, Int.reduceLE, Int.reduceNeg, Int.reduceEq, Nat.reduceLT, Nat.reduceSub, Nat.reduceMul, Nat.reduceBEq, Nat.reduceLeDiff, Int.reduceBEq, Int.reduceBNe, Int.reduceToNat, ne_eq, implies_true, bA]
  rfl

theorem quo32 (c : BitVec 32) (k : Nat) (hk : k < 32) : IntKind.u32.wrap ((c.toNat : Int).tdiv ((2 ^ k : Nat) : Int)) = ((c >>> k).toNat : Int) := by
  rw [Int.tdiv_eq_ediv_of_nonneg (by omega), ← Int.natCast_ediv, wrap32_nat, BitVec.toNat_ushiftRight, Nat.shiftRight_eq_div_pow, BitVec.toNat_ofNat, Nat.mod_eq_of_lt]
  exact Nat.lt_of_le_of_lt (Nat.div_le_self _ _) c.isLt

theorem rem32 (c : BitVec 32) : IntKind.u8.wrap ((c.toNat : Int).tmod 256) = ((low8 c).toNat : Int) := by
  have e : (2 : Int) ^ 8 = 256 := by decide
  rw [Int.tmod_eq_emod_of_nonneg (by omega)]
  simp only [IntKind.wrap, IntKind.bits, IntKind.signed, Bool.false_and, e]
  show (c.toNat : Int) % 256 % 256 = _
  rw [low8, UInt8.toNat_ofNat']; omega

theorem rseal_spec (s : List UInt8) (hs : s.length ≤ 1000000) : PCall Try.prog 29 [.str s] (.str (sealS s)) := by
  refine pcall_go Try.func29 comp_ref02_Seal ?_
  have q24 := fun c : BitVec 32 => quo32 c 24 (by omega)
  have q16 := fun c : BitVec 32 => quo32 c 16 (by omega)
  have q8 := fun c : BitVec 32 => quo32 c 8 (by omega)
  have e24 : (((2 ^ 24 : Nat)) : Int) = 16777216 := by decide
  have e16 : (((2 ^ 16 : Nat)) : Int) = 65536 := by decide
  have e8 : (((2 ^ 8 : Nat)) : Int) = 256 := by decide
  rw [e24] at q24; rw [e16] at q16; rw [e8] at q8
  simp (config := {maxSteps := 4000000}) only [U_ref02_Seal, reduceIte, reduceCtorEq, Nat.reduceEqDiff, Nat.reduceAdd, Int.reduceLT, Int.reduceLE, Int.reduceNeg, Int.reduceEq, Nat.reduceLT, Nat.reduceSub, Nat.reduceMul, Nat.reduceBEq, Nat.reduceLeDiff, Int.reduceBEq, Int.reduceBNe, Int.reduceToNat, ne_eq, implies_true, bA]
  refine callI (rsum_spec s hs) ?_
  simp (config := {maxSteps := 4000000}) only [U_ref02_Seal, q24, q16, q8, rem32, conv32_8, binI_quo, binI_rem, reduceIte, reduceCtorEq, Nat.reduceEqDiff, Nat.reduceAdd, Int.reduceLT, Int.reduceLE, Int.reduceNeg, Int.reduceEq, Nat.reduceLT, Nat.reduceSub, Nat.reduceMul, Nat.reduceBEq, Nat.reduceLeDiff, Int.reduceBEq, Int.reduceBNe, Int.reduceToNat, ne_eq, implies_true, bA]
  rw [binS_add (by simp only [List.length_cons, List.length_nil]; omega)]
  simp (config := {maxSteps := 4000000}) only [U_ref02_Seal, reduceIte, reduceCtorEq, Nat.reduceEqDiff, Nat.reduceAdd, Int.reduceLT, Int.reduceLE, Int.reduceNeg, Int.reduceEq, Nat.reduceLT, Nat.reduceSub, Nat.reduceMul, Nat.reduceBEq, Nat.reduceLeDiff, Int.reduceBEq, Int.reduceBNe, Int.reduceToNat, ne_eq, implies_true, bA]; rfl

theorem ropen_spec (s : List UInt8) (hs : s.length ≤ 1000000) : PCall Try.prog 37 [.str s] (.tup [.str (openS s).1, .int .i64 (openS s).2]) := by
  refine pcall_go Try.func37 comp_ref02_Open ?_
  simp (config := {maxSteps := 4000000}) only [U_ref02_Open, reduceIte, reduceCtorEq, Nat.reduceEqDiff, Nat.reduceAdd, Int.reduceLT, Int.reduceLE, Int.reduceNeg, Int.reduceEq, Nat.reduceLT, Nat.reduceSub, Nat.reduceMul, Nat.reduceBEq, Nat.reduceLeDiff, Int.reduceBEq, Int.reduceBNe, Int.reduceToNat, ne_eq, implies_true, bA]
  refine ⟨fun h => ?_, fun h => ?_⟩
  · have : s.length < 4 := by omega
    simp (config := {maxSteps := 4000000}) only [U_ref02_Open, openS, if_pos this, reduceIte, reduceCtorEq, Nat.reduceEqDiff, Nat.reduceAdd, Int.reduceLT, Int.reduceLE, Int.reduceNeg, Int.reduceEq, Nat.reduceLT, Nat.reduceSub, Nat.reduceMul, Nat.reduceBEq, Nat.reduceLeDiff, Int.reduceBEq, Int.reduceBNe, Int.reduceToNat, ne_eq, implies_true, bA]
  · have h4 : ¬ s.length < 4 := by simp at h; omega
    have hw : IntKind.i64.wrap ((s.length : Int) - 4) = ((s.length - 4 : Nat) : Int) := by rw [wrapI (by omega) (by omega)]; omega
    simp (config := {maxSteps := 4000000}) only [U_ref02_Open, hw, sstrV_to (show s.length - 4 ≤ s.length by omega), reduceIte, reduceCtorEq, Nat.reduceEqDiff, Nat.reduceAdd, Int.reduceLT, Int.reduceLE, Int.reduceNeg, Int.reduceEq, Nat.reduceLT, Nat.reduceSub, Nat.reduceMul, Nat.reduceBEq, Nat.reduceLeDiff, Int.reduceBEq, Int.reduceBNe, Int.reduceToNat, ne_eq, implies_true, bA]
    refine callI (rseal_spec _ (by simp; omega)) ?_
    simp (config := {maxSteps := 4000000}) only [U_ref02_Open, hw, sstrV_to (show s.length - 4 ≤ s.length by omega), reduceIte, reduceCtorEq, Nat.reduceEqDiff, Nat.reduceAdd, Int.reduceLT, Int.reduceLE, Int.reduceNeg, Int.reduceEq, Nat.reduceLT, Nat.reduceSub, Nat.reduceMul, Nat.reduceBEq, Nat.reduceLeDiff, Int.reduceBEq, Int.reduceBNe, Int.reduceToNat, ne_eq, implies_true, bA]
    refine ⟨fun h => ?_, fun h => ?_⟩
    · have : ¬ sealS (s.take (s.length - 4)) = s := by simpa using h
      simp (config := {maxSteps := 4000000}) only [U_ref02_Open, openS, if_neg h4, if_neg this, reduceIte, reduceCtorEq, Nat.reduceEqDiff, Nat.reduceAdd, Int.reduceLT, Int.reduceLE, Int.reduceNeg, Int.reduceEq, Nat.reduceLT, Nat.reduceSub, Nat.reduceMul, Nat.reduceBEq, Nat.reduceLeDiff, Int.reduceBEq, Int.reduceBNe, Int.reduceToNat, ne_eq, implies_true, bA]
    · have : sealS (s.take (s.length - 4)) = s := by simpa using h
      simp (config := {maxSteps := 4000000}) only [U_ref02_Open, openS, if_neg h4, if_pos this, reduceIte, reduceCtorEq, Nat.reduceEqDiff, Nat.reduceAdd, Int.reduceLT, Int.reduceLE, Int.reduceNeg, Int.reduceEq, Nat.reduceLT, Nat.reduceSub, Nat.reduceMul, Nat.reduceBEq, Nat.reduceLeDiff, Int.reduceBEq, Int.reduceBNe, Int.reduceToNat, ne_eq, implies_true, bA]

theorem open_seal (s : List UInt8) : openS (sealS s) = (s, 0) := by
  have h := seal_len s
  have h1 : (sealS s).length - 4 = s.length := by omega
  have h2 : (sealS s).take s.length = s := by simp [sealS]
  rw [openS, if_neg (by omega), h1, h2, if_pos rfl]

end Go.Proofs.Ytoofeppepahpfaa.Aw
