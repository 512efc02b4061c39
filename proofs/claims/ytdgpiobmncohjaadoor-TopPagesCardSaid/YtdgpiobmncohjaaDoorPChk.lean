/-
  Words of 32 bits in the walk, and what the functions of the seat compute.
-/
import Derived.Test.YtdgpiobmncohjaaDoorCode
set_option linter.unusedSimpArgs false
set_option linter.unusedVariables false
namespace Go.Proofs.YtdgpiobmncohjaaDoor.Aw
open Go.RowKit

/-- A word. -/
abbrev w32 (c : BitVec 32) : PV := .int .u32 c.toNat
/-- A byte. -/
abbrev b8 (b : UInt8) : PV := .int .u8 b.toNat

theorem wrap32 (n : Int) : IntKind.u32.wrap n = ((BitVec.ofInt 32 n).toNat : Int) := by
  have e : (2 : Int) ^ 32 = 4294967296 := by decide
  simp only [IntKind.wrap, IntKind.bits, IntKind.signed, Bool.false_and, e, BitVec.toNat_ofInt]
  show n % 4294967296 = _
  have : (0 : Int) ≤ n % 4294967296 := Int.emod_nonneg _ (by decide)
  simp only [Nat.reducePow, Int.cast_ofNat_Int]
  omega

theorem ofInt_toNat32 (c : BitVec 32) : BitVec.ofInt 32 (c.toNat : Int) = c := by
  rw [BitVec.ofInt_natCast, BitVec.ofNat_toNat, BitVec.setWidth_eq]

@[simp high] theorem xor32 (a : BitVec 32) (n : Int) : binI .xor .u32 (a.toNat : Int) n = some (w32 (a ^^^ BitVec.ofInt 32 n)) := by
  simp only [binI, wrap32, IntKind.bits, ofInt_toNat32]; rfl

@[simp high] theorem and32 (a : BitVec 32) (n : Int) : binI .and .u32 (a.toNat : Int) n = some (w32 (a &&& BitVec.ofInt 32 n)) := by
  simp only [binI, wrap32, IntKind.bits, ofInt_toNat32]; rfl

@[simp high] theorem un32 (a : BitVec 32) : unV .xor (.int .u32 (a.toNat : Int)) = some (w32 (~~~ a)) := by
  simp only [unV, wrap32, IntKind.bits, IntKind.signed, IntKind.max, ofInt_toNat32]
  show some (PV.int .u32 (((BitVec.allOnes 32) ^^^ a).toNat : Int)) = _
  rw [BitVec.allOnes_xor]

theorem shl_eq32 (a : BitVec 32) (k : Nat) : BitVec.ofInt 32 ((a.toNat : Int) * 2 ^ min k 32) = a <<< k := by
  apply BitVec.eq_of_toNat_eq
  have e : ((a.toNat : Int) * 2 ^ min k 32) = ((a.toNat * 2 ^ min k 32 : Nat) : Int) := by simp
  rw [e, BitVec.ofInt_natCast, BitVec.toNat_ofNat, BitVec.toNat_shiftLeft, Nat.shiftLeft_eq]
  by_cases h : k ≤ 32
  · rw [Nat.min_eq_left h]
  · rw [Nat.min_eq_right (by omega), Nat.mul_mod_left]
    obtain ⟨j, rfl⟩ : ∃ j, k = 32 + j := ⟨k - 32, by omega⟩
    rw [Nat.pow_add, show a.toNat * (2 ^ 32 * 2 ^ j) = (a.toNat * 2 ^ j) * 2 ^ 32 by simp only [Nat.mul_assoc, Nat.mul_comm, Nat.mul_left_comm], Nat.mul_mod_left]

theorem shr_eqI (a : Nat) (k : Nat) : (a : Int).fdiv (2 ^ k) = ((a >>> k : Nat) : Int) := by
  rw [Nat.shiftRight_eq_div_pow, Int.fdiv_eq_ediv_of_nonneg _ (Int.le_of_lt (Int.pow_pos (by decide)))]
  simp

theorem shr_min {a n : Nat} (h : a < 2 ^ n) (k : Nat) : a >>> min k n = a >>> k := by
  by_cases hk : k ≤ n
  · rw [Nat.min_eq_left hk]
  · rw [Nat.min_eq_right (by omega), Nat.shiftRight_eq_div_pow, Nat.shiftRight_eq_div_pow, Nat.div_eq_of_lt h, Nat.div_eq_of_lt (Nat.lt_of_lt_of_le h (Nat.pow_le_pow_right (by decide) (by omega)))]

@[simp high] theorem shl32 (a : BitVec 32) (n : Nat) : shI .shl .u32 (a.toNat : Int) (n : Int) = some (w32 (a <<< n)) := by
  simp only [shI, wrap32, IntKind.bits]
  rw [if_neg (by omega), Int.toNat_natCast, shl_eq32]

@[simp high] theorem shr32 (a : BitVec 32) (n : Nat) : shI .shr .u32 (a.toNat : Int) (n : Int) = some (w32 (a >>> n)) := by
  simp only [shI, IntKind.bits]
  rw [if_neg (by omega), Int.toNat_natCast, shr_eqI, shr_min a.isLt, w32, BitVec.toNat_ushiftRight]

@[simp high] theorem shl32' (a : BitVec 32) (n : Nat) : shI .shl .u32 (a.toNat : Int) (no_index (OfNat.ofNat n : Int)) = some (w32 (a <<< (OfNat.ofNat n : Nat))) := shl32 a n
@[simp high] theorem shr32' (a : BitVec 32) (n : Nat) : shI .shr .u32 (a.toNat : Int) (no_index (OfNat.ofNat n : Int)) = some (w32 (a >>> (OfNat.ofNat n : Nat))) := shr32 a n
@[simp high] theorem ofInt_toNat32' (c : BitVec 32) : BitVec.ofInt 32 (c.toNat : Int) = c := ofInt_toNat32 c
@[simp high] theorem conv8_32 (b : UInt8) : IntKind.u32.wrap (b.toNat : Int) = ((BitVec.setWidth 32 b.toBitVec).toNat : Int) := by
  rw [wrap32, BitVec.ofInt_natCast, BitVec.toNat_ofNat, BitVec.toNat_setWidth]; rfl
theorem toNat_beq (a b : BitVec 32) : ((a.toNat : Int) == (b.toNat : Int)) = (a == b) := by
  by_cases h : a = b
  · subst h; simp
  · have : a.toNat ≠ b.toNat := fun e => h (BitVec.eq_of_toNat_eq e)
    have h1 : ((a.toNat : Int) == (b.toNat : Int)) = false := by simp; omega
    rw [h1]; simp [h]

/-- One bit on. -/
def step1 (c : BitVec 32) : BitVec 32 := if c >>> 31 = 1#32 then (c <<< 1) ^^^ 79764919#32 else c <<< 1
def stepN : Nat → BitVec 32 → BitVec 32
  | 0, c => c
  | n + 1, c => stepN n (step1 c)
def nextS (c : BitVec 32) (b : UInt8) : BitVec 32 := stepN 8 (c ^^^ (BitVec.setWidth 32 b.toBitVec <<< 24))


theorem stepN_succ : ∀ (i : Nat) (c : BitVec 32), stepN (i + 1) c = step1 (stepN i c)
  | 0, _ => rfl
  | i + 1, c => stepN_succ i (step1 c)

theorem eq1 (c : BitVec 32) : ((c.toNat : Int) == 1) = decide (c = 1#32) := by
  have h := toNat_beq c 1#32
  have e : ((1#32).toNat : Int) = 1 := by decide
  rw [e] at h; rw [h]; by_cases hc : c = 1#32 <;> simp [hc]

theorem next_spec (c : BitVec 32) (b : UInt8) : PCall Tryd.prog 62 [w32 c, b8 b] (w32 (nextS c b)) := by
  refine pcall_go Tryd.func62 comp_check_next ?_
  simp (config := {maxSteps := 4000000}) only [U_check_next, shl32', shr32', xor32, conv8_32, ofInt_toNat32, reduceIte, reduceCtorEq, Nat.reduceEqDiff, Nat.reduceAdd, Int.reduceLT, Int.reduceLE, Int.reduceNeg, Int.reduceEq, Nat.reduceLT, Nat.reduceSub, Nat.reduceMul, Nat.reduceBEq, Nat.reduceLeDiff, Int.reduceBEq, Int.reduceBNe, Int.reduceToNat, ne_eq, implies_true, bA]
  refine loopF (fun i : Nat => ⟨ofL [(0, w32 (stepN i (c ^^^ (BitVec.setWidth 32 b.toBitVec <<< 24)))), (10, .int .i64 i)], []⟩) (fun i => i ≤ 8) (fun i => 8 - i) 0 ?_ (by omega) ?_
  · simp only [reduceIte, reduceCtorEq, Nat.reduceEqDiff, Nat.reduceAdd, Int.reduceLT, Int.reduceLE, Int.reduceNeg, Int.reduceEq, Nat.reduceLT, Nat.reduceSub, Nat.reduceMul, Nat.reduceBEq, Nat.reduceLeDiff, Int.reduceBEq, Int.reduceBNe, Int.reduceToNat, ne_eq, implies_true, bA]; rfl
  · intro i hi
    simp (config := {maxSteps := 4000000}) only [U_check_next, shl32', shr32', xor32, conv8_32, ofInt_toNat32, eq1, reduceIte, reduceCtorEq, Nat.reduceEqDiff, Nat.reduceAdd, Int.reduceLT, Int.reduceLE, Int.reduceNeg, Int.reduceEq, Nat.reduceLT, Nat.reduceSub, Nat.reduceMul, Nat.reduceBEq, Nat.reduceLeDiff, Int.reduceBEq, Int.reduceBNe, Int.reduceToNat, ne_eq, implies_true, bA]
    refine ⟨fun h => ⟨fun h1 => ⟨i + 1, ?_, by omega, by omega⟩, fun h1 => ⟨i + 1, ?_, by omega, by omega⟩⟩, fun h => ?_⟩
    · rw [wrapI (by omega) (by omega), stepN_succ, step1, if_pos (by simpa using h1)]; rfl
    · rw [wrapI (by omega) (by omega), stepN_succ, step1, if_neg (by simpa using h1)]; rfl
    · have : i = 8 := by simp at h; omega
      subst this; rfl

def foldS (c : BitVec 32) (s : List UInt8) : BitVec 32 := s.foldl nextS c
def moreS (c : BitVec 32) (s : List UInt8) : BitVec 32 := ~~~ (foldS (~~~ c) s)
def sumS (s : List UInt8) : BitVec 32 := moreS 0#32 s
def low8 (c : BitVec 32) : UInt8 := UInt8.ofNat c.toNat
def tail4 (c : BitVec 32) : List UInt8 := [low8 (c >>> 24), low8 (c >>> 16), low8 (c >>> 8), low8 c]
def sealS (s : List UInt8) : List UInt8 := s ++ tail4 (sumS s)

theorem take_foldS {c : BitVec 32} {s : List UInt8} {i : Nat} (h : i < s.length) : foldS c (s.take (i + 1)) = nextS (foldS c (s.take i)) s[i] := by
  rw [foldS, foldS, List.take_succ_eq_append_getElem h, List.foldl_append]; rfl

theorem zero32 : (0 : Int) = ((0#32).toNat : Int) := by decide

theorem more_spec (c : BitVec 32) (s : List UInt8) (hs : s.length ≤ 1000000) : PCall Tryd.prog 54 [w32 c, .str s] (w32 (moreS c s)) := by
  refine pcall_go Tryd.func54 comp_check_More ?_
  simp (config := {maxSteps := 4000000}) only [U_check_More, un32, reduceIte, reduceCtorEq, Nat.reduceEqDiff, Nat.reduceAdd, Int.reduceLT, Int.reduceLE, Int.reduceNeg, Int.reduceEq, Nat.reduceLT, Nat.reduceSub, Nat.reduceMul, Nat.reduceBEq, Nat.reduceLeDiff, Int.reduceBEq, Int.reduceBNe, Int.reduceToNat, ne_eq, implies_true, bA]
  refine loopF (fun i : Nat => ⟨ofL [(1, .str s), (5, w32 (foldS (~~~ c) (s.take i))), (10, .int .i64 s.length), (11, .int .i64 i)], []⟩) (fun i => i ≤ s.length) (fun i => s.length - i) 0 ?_ (Nat.zero_le _) ?_
  · simp only [reduceIte, reduceCtorEq, Nat.reduceEqDiff, Nat.reduceAdd, Int.reduceLT, Int.reduceLE, Int.reduceNeg, Int.reduceEq, Nat.reduceLT, Nat.reduceSub, Nat.reduceMul, Nat.reduceBEq, Nat.reduceLeDiff, Int.reduceBEq, Int.reduceBNe, Int.reduceToNat, ne_eq, implies_true, bA]; rfl
  · intro i hi
    simp (config := {maxSteps := 4000000}) only [U_check_More, un32, reduceIte, reduceCtorEq, Nat.reduceEqDiff, Nat.reduceAdd, Int.reduceLT, Int.reduceLE, Int.reduceNeg, Int.reduceEq, Nat.reduceLT, Nat.reduceSub, Nat.reduceMul, Nat.reduceBEq, Nat.reduceLeDiff, Int.reduceBEq, Int.reduceBNe, Int.reduceToNat, ne_eq, implies_true, bA]
    refine ⟨fun h => ?_, fun h => ?_⟩
    · have hlt : i < s.length := by omega
      simp (config := {maxSteps := 4000000}) only [U_check_More, idxsV_at hlt, reduceIte, reduceCtorEq, Nat.reduceEqDiff, Nat.reduceAdd, Int.reduceLT, Int.reduceLE, Int.reduceNeg, Int.reduceEq, Nat.reduceLT, Nat.reduceSub, Nat.reduceMul, Nat.reduceBEq, Nat.reduceLeDiff, Int.reduceBEq, Int.reduceBNe, Int.reduceToNat, ne_eq, implies_true, bA]
      refine callI (next_spec _ _) ?_
      simp (config := {maxSteps := 4000000}) only [U_check_More, reduceIte, reduceCtorEq, Nat.reduceEqDiff, Nat.reduceAdd, Int.reduceLT, Int.reduceLE, Int.reduceNeg, Int.reduceEq, Nat.reduceLT, Nat.reduceSub, Nat.reduceMul, Nat.reduceBEq, Nat.reduceLeDiff, Int.reduceBEq, Int.reduceBNe, Int.reduceToNat, ne_eq, implies_true, bA]
      refine ⟨i + 1, ?_, by omega, by omega⟩
      rw [wrapI (by omega) (by omega), take_foldS hlt]; rfl
    · have : i = s.length := by simp at h; omega
      subst this; simp only [List.take_length]; rfl

theorem sum_spec (s : List UInt8) (hs : s.length ≤ 1000000) : PCall Tryd.prog 37 [.str s] (w32 (sumS s)) := by
  refine pcall_go Tryd.func37 comp_check_Sum ?_
  simp (config := {maxSteps := 4000000}) only [U_check_Sum, zero32, reduceIte, reduceCtorEq, Nat.reduceEqDiff, Nat.reduceAdd, Int.reduceLT, Int.reduceLE, Int.reduceNeg, Int.reduceEq, Nat.reduceLT, Nat.reduceSub, Nat.reduceMul, Nat.reduceBEq, Nat.reduceLeDiff, Int.reduceBEq, Int.reduceBNe, Int.reduceToNat, ne_eq, implies_true, bA]
  refine callI (more_spec 0#32 s hs) ?_
  simp (config := {maxSteps := 4000000}) only [U_check_Sum, reduceIte, reduceCtorEq, Nat.reduceEqDiff, Nat.reduceAdd, Int.reduceLT, Int.reduceLE, Int.reduceNeg, Int.reduceEq, Nat.reduceLT, Nat.reduceSub, Nat.reduceMul, Nat.reduceBEq, Nat.reduceLeDiff, Int.reduceBEq, Int.reduceBNe, Int.reduceToNat, ne_eq, implies_true, bA]; rfl

theorem conv32_8 (c : BitVec 32) : IntKind.u8.wrap (c.toNat : Int) = ((low8 c).toNat : Int) := by
  have e : (2 : Int) ^ 8 = 256 := by decide
  simp only [IntKind.wrap, IntKind.bits, IntKind.signed, Bool.false_and, e]
  show (c.toNat : Int) % 256 = _
  rw [low8, UInt8.toNat_ofNat']; omega

theorem seal_spec (s : List UInt8) (hs : s.length ≤ 1000000) : PCall Tryd.prog 20 [.str s] (.str (sealS s)) := by
  refine pcall_go Tryd.func20 comp_check_Seal ?_
  simp (config := {maxSteps := 4000000}) only [U_check_Seal, shr32', conv32_8, reduceIte, reduceCtorEq, Nat.reduceEqDiff, Nat.reduceAdd, Int.reduceLT, Int.reduceLE, Int.reduceNeg, Int.reduceEq, Nat.reduceLT, Nat.reduceSub, Nat.reduceMul, Nat.reduceBEq, Nat.reduceLeDiff, Int.reduceBEq, Int.reduceBNe, Int.reduceToNat, ne_eq, implies_true, bA]
  refine callI (sum_spec s hs) ?_
  simp (config := {maxSteps := 4000000}) only [U_check_Seal, shr32', conv32_8, reduceIte, reduceCtorEq, Nat.reduceEqDiff, Nat.reduceAdd, Int.reduceLT, Int.reduceLE, Int.reduceNeg, Int.reduceEq, Nat.reduceLT, Nat.reduceSub, Nat.reduceMul, Nat.reduceBEq, Nat.reduceLeDiff, Int.reduceBEq, Int.reduceBNe, Int.reduceToNat, ne_eq, implies_true, bA]
  rw [binS_add (by simp only [List.length_cons, List.length_nil]; omega)]
  simp (config := {maxSteps := 4000000}) only [U_check_Seal, reduceIte, reduceCtorEq, Nat.reduceEqDiff, Nat.reduceAdd, Int.reduceLT, Int.reduceLE, Int.reduceNeg, Int.reduceEq, Nat.reduceLT, Nat.reduceSub, Nat.reduceMul, Nat.reduceBEq, Nat.reduceLeDiff, Int.reduceBEq, Int.reduceBNe, Int.reduceToNat, ne_eq, implies_true, bA]; rfl

theorem seal_len (s : List UInt8) : (sealS s).length = s.length + 4 := by simp [sealS, tail4]

/-- What is opened, or the error. -/
def openS (s : List UInt8) : List UInt8 × Int :=
  if s.length < 4 then ([], 5) else if sealS (s.take (s.length - 4)) = s then (s.take (s.length - 4), 0) else ([], 6)

theorem open_spec (s : List UInt8) (hs : s.length ≤ 1000000) : PCall Tryd.prog 26 [.str s] (.tup [.str (openS s).1, .int .i64 (openS s).2]) := by
  refine pcall_go Tryd.func26 comp_check_Open ?_
  have hw : IntKind.i64.wrap ((s.length : Int) - 4) = (s.length : Int) - 4 := wrapI (by omega) (by omega)
  simp (config := {maxSteps := 4000000}) only [U_check_Open, hw, reduceIte, reduceCtorEq, Nat.reduceEqDiff, Nat.reduceAdd, Int.reduceLT, Int.reduceLE, Int.reduceNeg, Int.reduceEq, Nat.reduceLT, Nat.reduceSub, Nat.reduceMul, Nat.reduceBEq, Nat.reduceLeDiff, Int.reduceBEq, Int.reduceBNe, Int.reduceToNat, ne_eq, implies_true, bA]
  refine ⟨fun h => ?_, fun h => ?_⟩
  · have : s.length < 4 := by omega
    simp (config := {maxSteps := 4000000}) only [U_check_Open, openS, if_pos this, reduceIte, reduceCtorEq, Nat.reduceEqDiff, Nat.reduceAdd, Int.reduceLT, Int.reduceLE, Int.reduceNeg, Int.reduceEq, Nat.reduceLT, Nat.reduceSub, Nat.reduceMul, Nat.reduceBEq, Nat.reduceLeDiff, Int.reduceBEq, Int.reduceBNe, Int.reduceToNat, ne_eq, implies_true, bA]
  · have h4 : ¬ s.length < 4 := by simp at h; omega
    have hc : (s.length : Int) - 4 = ((s.length - 4 : Nat) : Int) := by omega
    simp (config := {maxSteps := 4000000}) only [U_check_Open, hc, sstrV_to (show s.length - 4 ≤ s.length by omega), reduceIte, reduceCtorEq, Nat.reduceEqDiff, Nat.reduceAdd, Int.reduceLT, Int.reduceLE, Int.reduceNeg, Int.reduceEq, Nat.reduceLT, Nat.reduceSub, Nat.reduceMul, Nat.reduceBEq, Nat.reduceLeDiff, Int.reduceBEq, Int.reduceBNe, Int.reduceToNat, ne_eq, implies_true, bA]
    refine callI (seal_spec _ (by simp; omega)) ?_
    simp (config := {maxSteps := 4000000}) only [U_check_Open, hc, sstrV_to (show s.length - 4 ≤ s.length by omega), reduceIte, reduceCtorEq, Nat.reduceEqDiff, Nat.reduceAdd, Int.reduceLT, Int.reduceLE, Int.reduceNeg, Int.reduceEq, Nat.reduceLT, Nat.reduceSub, Nat.reduceMul, Nat.reduceBEq, Nat.reduceLeDiff, Int.reduceBEq, Int.reduceBNe, Int.reduceToNat, ne_eq, implies_true, bA]
    refine ⟨fun h => ?_, fun h => ?_⟩
    · have : ¬ sealS (s.take (s.length - 4)) = s := by simpa using h
      simp (config := {maxSteps := 4000000}) only [U_check_Open, openS, if_neg h4, if_neg this, reduceIte, reduceCtorEq, Nat.reduceEqDiff, Nat.reduceAdd, Int.reduceLT, Int.reduceLE, Int.reduceNeg, Int.reduceEq, Nat.reduceLT, Nat.reduceSub, Nat.reduceMul, Nat.reduceBEq, Nat.reduceLeDiff, Int.reduceBEq, Int.reduceBNe, Int.reduceToNat, ne_eq, implies_true, bA]
    · have : sealS (s.take (s.length - 4)) = s := by simpa using h
      simp (config := {maxSteps := 4000000}) only [U_check_Open, openS, if_neg h4, if_pos this, reduceIte, reduceCtorEq, Nat.reduceEqDiff, Nat.reduceAdd, Int.reduceLT, Int.reduceLE, Int.reduceNeg, Int.reduceEq, Nat.reduceLT, Nat.reduceSub, Nat.reduceMul, Nat.reduceBEq, Nat.reduceLeDiff, Int.reduceBEq, Int.reduceBNe, Int.reduceToNat, ne_eq, implies_true, bA]
end Go.Proofs.YtdgpiobmncohjaaDoor.Aw
