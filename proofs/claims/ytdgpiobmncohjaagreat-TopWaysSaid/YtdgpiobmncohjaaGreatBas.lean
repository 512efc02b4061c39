/-
  Words of 32 bits in the walk, and what the functions of the seat compute.; The document's functions of the seat, and that they compute what the program's compute.; The sum is linear, and bits that are turned within 32 side by side are seen. Plain Lean, no program in sight.; Numbers as bytes, the lowest first. Plain Lean.; What the functions of the package 'field' compute.; Reading fields, and taking rows of them.; What the document's functions of layer 1 compute: the same.; strings.Builder: what its functions do to a builder of the caller's own.; Rows: what the program and the document make of numbers and widths.
-/
import Derived.Test.YtdgpiobmncohjaaGreatKdn
import Derived.Test.YtdgpiobmncohjaaGreatAwNum
import Derived.Lib.Walk
import Derived.Lib.Builder
import Derived.Lib.Strings
import Derived.WalkKit
import Derived.Laws.Externs
set_option linter.unusedSimpArgs false
set_option linter.unusedVariables false
namespace Go.Proofs.YtdgpiobmncohjaaGreat.Aw
open Go.RowKit

/-- A word. -/
abbrev w32 (c : BitVec 32) : PV := .int .u32 c.toNat
/-- A byte. -/
abbrev b8 (b : UInt8) : PV := .int .u8 b.toNat

theorem wrap32 (n : Int) : IntKind.u32.wrap n = ((BitVec.ofInt 32 n).toNat : Int) := by
  have e : (2 : Int) ^ 32 = 4294967296 := by decide
  simp only [IntKind.wrap, IntKind.bits, IntKind.signed, Bool.false_and, e, BitVec.toNat_ofInt]
  show n % 4294967296 = _
  have : (0 : Int) ≤ n % 4294967296 := Int.emod_nonneg _ (by decide)
  simp only [Nat.reducePow, Int.cast_ofNat_Int]
  omega

theorem ofInt_toNat32 (c : BitVec 32) : BitVec.ofInt 32 (c.toNat : Int) = c := by
  rw [BitVec.ofInt_natCast, BitVec.ofNat_toNat, BitVec.setWidth_eq]

@[simp high] theorem xor32 (a : BitVec 32) (n : Int) : binI .xor .u32 (a.toNat : Int) n = some (w32 (a ^^^ BitVec.ofInt 32 n)) := by
  simp only [binI, wrap32, IntKind.bits, ofInt_toNat32]; rfl

@[simp high] theorem and32 (a : BitVec 32) (n : Int) : binI .and .u32 (a.toNat : Int) n = some (w32 (a &&& BitVec.ofInt 32 n)) := by
  simp only [binI, wrap32, IntKind.bits, ofInt_toNat32]; rfl

@[simp high] theorem un32 (a : BitVec 32) : unV .xor (.int .u32 (a.toNat : Int)) = some (w32 (~~~ a)) := by
  simp only [unV, wrap32, IntKind.bits, IntKind.signed, IntKind.max, ofInt_toNat32]
  show some (PV.int .u32 (((BitVec.allOnes 32) ^^^ a).toNat : Int)) = _
  rw [BitVec.allOnes_xor]

theorem shl_eq32 (a : BitVec 32) (k : Nat) : BitVec.ofInt 32 ((a.toNat : Int) * 2 ^ min k 32) = a <<< k := by
  apply BitVec.eq_of_toNat_eq
  have e : ((a.toNat : Int) * 2 ^ min k 32) = ((a.toNat * 2 ^ min k 32 : Nat) : Int) := by simp
  rw [e, BitVec.ofInt_natCast, BitVec.toNat_ofNat, BitVec.toNat_shiftLeft, Nat.shiftLeft_eq]
  by_cases h : k ≤ 32
  · rw [Nat.min_eq_left h]
  · rw [Nat.min_eq_right (by omega), Nat.mul_mod_left]
    obtain ⟨j, rfl⟩ : ∃ j, k = 32 + j := ⟨k - 32, by omega⟩
    rw [Nat.pow_add, show a.toNat * (2 ^ 32 * 2 ^ j) = (a.toNat * 2 ^ j) * 2 ^ 32 by simp only [Nat.mul_assoc, Nat.mul_comm, Nat.mul_left_comm], Nat.mul_mod_left]

theorem shr_eqI (a : Nat) (k : Nat) : (a : Int).fdiv (2 ^ k) = ((a >>> k : Nat) : Int) := by
  rw [Nat.shiftRight_eq_div_pow, Int.fdiv_eq_ediv_of_nonneg _ (Int.le_of_lt (Int.pow_pos (by decide)))]
  simp

theorem shr_min {a n : Nat} (h : a < 2 ^ n) (k : Nat) : a >>> min k n = a >>> k := by
  by_cases hk : k ≤ n
  · rw [Nat.min_eq_left hk]
  · rw [Nat.min_eq_right (by omega), Nat.shiftRight_eq_div_pow, Nat.shiftRight_eq_div_pow, Nat.div_eq_of_lt h, Nat.div_eq_of_lt (Nat.lt_of_lt_of_le h (Nat.pow_le_pow_right (by decide) (by omega)))]

@[simp high] theorem shl32 (a : BitVec 32) (n : Nat) : shI .shl .u32 (a.toNat : Int) (n : Int) = some (w32 (a <<< n)) := by
  simp only [shI, wrap32, IntKind.bits]
  rw [if_neg (by omega), Int.toNat_natCast, shl_eq32]

@[simp high] theorem shr32 (a : BitVec 32) (n : Nat) : shI .shr .u32 (a.toNat : Int) (n : Int) = some (w32 (a >>> n)) := by
  simp only [shI, IntKind.bits]
  rw [if_neg (by omega), Int.toNat_natCast, shr_eqI, shr_min a.isLt, w32, BitVec.toNat_ushiftRight]

@[simp high] theorem shl32' (a : BitVec 32) (n : Nat) : shI .shl .u32 (a.toNat : Int) (no_index (OfNat.ofNat n : Int)) = some (w32 (a <<< (OfNat.ofNat n : Nat))) := shl32 a n
@[simp high] theorem shr32' (a : BitVec 32) (n : Nat) : shI .shr .u32 (a.toNat : Int) (no_index (OfNat.ofNat n : Int)) = some (w32 (a >>> (OfNat.ofNat n : Nat))) := shr32 a n
@[simp high] theorem ofInt_toNat32' (c : BitVec 32) : BitVec.ofInt 32 (c.toNat : Int) = c := ofInt_toNat32 c
@[simp high] theorem conv8_32 (b : UInt8) : IntKind.u32.wrap (b.toNat : Int) = ((BitVec.setWidth 32 b.toBitVec).toNat : Int) := by
  rw [wrap32, BitVec.ofInt_natCast, BitVec.toNat_ofNat, BitVec.toNat_setWidth]; rfl
theorem toNat_beq (a b : BitVec 32) : ((a.toNat : Int) == (b.toNat : Int)) = (a == b) := by
  by_cases h : a = b
  · subst h; simp
  · have : a.toNat ≠ b.toNat := fun e => h (BitVec.eq_of_toNat_eq e)
    have h1 : ((a.toNat : Int) == (b.toNat : Int)) = false := by simp; omega
    rw [h1]; simp [h]

/-- One bit on. -/
def step1 (c : BitVec 32) : BitVec 32 := if c >>> 31 = 1#32 then (c <<< 1) ^^^ 79764919#32 else c <<< 1
def stepN : Nat → BitVec 32 → BitVec 32
  | 0, c => c
  | n + 1, c => stepN n (step1 c)
def nextS (c : BitVec 32) (b : UInt8) : BitVec 32 := stepN 8 (c ^^^ (BitVec.setWidth 32 b.toBitVec <<< 24))


theorem stepN_succ : ∀ (i : Nat) (c : BitVec 32), stepN (i + 1) c = step1 (stepN i c)
  | 0, _ => rfl
  | i + 1, c => stepN_succ i (step1 c)

theorem eq1 (c : BitVec 32) : ((c.toNat : Int) == 1) = decide (c = 1#32) := by
  have h := toNat_beq c 1#32
  have e : ((1#32).toNat : Int) = 1 := by decide
  rw [e] at h; rw [h]; by_cases hc : c = 1#32 <;> simp [hc]

theorem next_spec (c : BitVec 32) (b : UInt8) : PCall Tryz.prog 90 [w32 c, b8 b] (w32 (nextS c b)) := by
  refine pcall_go Tryz.func90 cm4 ?_
  simp only [U4, shl32', shr32', xor32, conv8_32, ofInt_toNat32, reduceIte, reduceCtorEq, Nat.reduceEqDiff, Nat.reduceAdd, Int.reduceLT, Int.reduceLE, Int.reduceNeg, Int.reduceEq, Nat.reduceLT, Nat.reduceSub, Nat.reduceMul, Nat.reduceBEq, Nat.reduceLeDiff, Int.reduceBEq, Int.reduceBNe, Int.reduceToNat, bA]
  refine loopF (fun i : Nat => ⟨ofL [(0, w32 (stepN i (c ^^^ (BitVec.setWidth 32 b.toBitVec <<< 24)))), (10, .int .i64 i)], []⟩) (fun i => i ≤ 8) (fun i => 8 - i) 0 ?_ (by omega) ?_
  · simp only [seval, bA]; rfl
  · intro i hi
    simp only [U4, shl32', shr32', xor32, conv8_32, ofInt_toNat32, eq1, reduceIte, reduceCtorEq, Nat.reduceEqDiff, Nat.reduceAdd, Int.reduceLT, Int.reduceLE, Int.reduceNeg, Int.reduceEq, Nat.reduceLT, Nat.reduceSub, Nat.reduceMul, Nat.reduceBEq, Nat.reduceLeDiff, Int.reduceBEq, Int.reduceBNe, Int.reduceToNat, bA]
    refine ⟨fun h => ⟨fun h1 => ⟨i + 1, ?_, by omega, by omega⟩, fun h1 => ⟨i + 1, ?_, by omega, by omega⟩⟩, fun h => ?_⟩
    · rw [wrapI (by omega) (by omega), stepN_succ, step1, if_pos (by simpa using h1)]; rfl
    · rw [wrapI (by omega) (by omega), stepN_succ, step1, if_neg (by simpa using h1)]; rfl
    · have : i = 8 := by simp at h; omega
      subst this; rfl

def foldS (c : BitVec 32) (s : List UInt8) : BitVec 32 := s.foldl nextS c
def moreS (c : BitVec 32) (s : List UInt8) : BitVec 32 := ~~~ (foldS (~~~ c) s)
def sumS (s : List UInt8) : BitVec 32 := moreS 0#32 s
def low8 (c : BitVec 32) : UInt8 := UInt8.ofNat c.toNat
def tail4 (c : BitVec 32) : List UInt8 := [low8 (c >>> 24), low8 (c >>> 16), low8 (c >>> 8), low8 c]
def sealS (s : List UInt8) : List UInt8 := s ++ tail4 (sumS s)

theorem take_foldS {c : BitVec 32} {s : List UInt8} {i : Nat} (h : i < s.length) : foldS c (s.take (i + 1)) = nextS (foldS c (s.take i)) s[i] := by
  rw [foldS, foldS, List.take_succ_eq_append_getElem h, List.foldl_append]; rfl

theorem zero32 : (0 : Int) = ((0#32).toNat : Int) := by decide

theorem more_spec (c : BitVec 32) (s : List UInt8) (hs : s.length ≤ 1000000) : PCall Tryz.prog 77 [w32 c, .str s] (w32 (moreS c s)) := by
  refine pcall_go Tryz.func77 cm0 ?_
  simp only [U0, un32, reduceIte, reduceCtorEq, Nat.reduceEqDiff, Nat.reduceAdd, Int.reduceLT, Int.reduceLE, Int.reduceNeg, Int.reduceEq, Nat.reduceLT, Nat.reduceSub, Nat.reduceMul, Nat.reduceBEq, Nat.reduceLeDiff, Int.reduceBEq, Int.reduceBNe, Int.reduceToNat, bA]
  refine loopF (fun i : Nat => ⟨ofL [(1, .str s), (5, w32 (foldS (~~~ c) (s.take i))), (10, .int .i64 s.length), (11, .int .i64 i)], []⟩) (fun i => i ≤ s.length) (fun i => s.length - i) 0 ?_ (Nat.zero_le _) ?_
  · simp only [seval, bA]; rfl
  · intro i hi
    simp only [U0, un32, reduceIte, reduceCtorEq, Nat.reduceEqDiff, Nat.reduceAdd, Int.reduceLT, Int.reduceLE, Int.reduceNeg, Int.reduceEq, Nat.reduceLT, Nat.reduceSub, Nat.reduceMul, Nat.reduceBEq, Nat.reduceLeDiff, Int.reduceBEq, Int.reduceBNe, Int.reduceToNat, bA]
    refine ⟨fun h => ?_, fun h => ?_⟩
    · have hlt : i < s.length := by omega
      simp only [U0, idxsV_at hlt, reduceIte, reduceCtorEq, Nat.reduceEqDiff, Nat.reduceAdd, Int.reduceLT, Int.reduceLE, Int.reduceNeg, Int.reduceEq, Nat.reduceLT, Nat.reduceSub, Nat.reduceMul, Nat.reduceBEq, Nat.reduceLeDiff, Int.reduceBEq, Int.reduceBNe, Int.reduceToNat, bA]
      refine callI (next_spec _ _) ?_
      simp only [U0, reduceIte, reduceCtorEq, Nat.reduceEqDiff, Nat.reduceAdd, Int.reduceLT, Int.reduceLE, Int.reduceNeg, Int.reduceEq, Nat.reduceLT, Nat.reduceSub, Nat.reduceMul, Nat.reduceBEq, Nat.reduceLeDiff, Int.reduceBEq, Int.reduceBNe, Int.reduceToNat, bA]
      refine ⟨i + 1, ?_, by omega, by omega⟩
      rw [wrapI (by omega) (by omega), take_foldS hlt]; rfl
    · have : i = s.length := by simp at h; omega
      subst this; simp only [List.take_length]; rfl

theorem sum_spec (s : List UInt8) (hs : s.length ≤ 1000000) : PCall Tryz.prog 62 [.str s] (w32 (sumS s)) := by
  refine pcall_go Tryz.func62 cm3 ?_
  simp only [U3, zero32, reduceIte, reduceCtorEq, Nat.reduceEqDiff, Nat.reduceAdd, Int.reduceLT, Int.reduceLE, Int.reduceNeg, Int.reduceEq, Nat.reduceLT, Nat.reduceSub, Nat.reduceMul, Nat.reduceBEq, Nat.reduceLeDiff, Int.reduceBEq, Int.reduceBNe, Int.reduceToNat, bA]
  refine callI (more_spec 0#32 s hs) ?_
  simp only [U3, reduceIte, reduceCtorEq, Nat.reduceEqDiff, Nat.reduceAdd, Int.reduceLT, Int.reduceLE, Int.reduceNeg, Int.reduceEq, Nat.reduceLT, Nat.reduceSub, Nat.reduceMul, Nat.reduceBEq, Nat.reduceLeDiff, Int.reduceBEq, Int.reduceBNe, Int.reduceToNat, bA]; rfl

theorem conv32_8 (c : BitVec 32) : IntKind.u8.wrap (c.toNat : Int) = ((low8 c).toNat : Int) := by
  have e : (2 : Int) ^ 8 = 256 := by decide
  simp only [IntKind.wrap, IntKind.bits, IntKind.signed, Bool.false_and, e]
  show (c.toNat : Int) % 256 = _
  rw [low8, UInt8.toNat_ofNat']; omega

theorem seal_spec (s : List UInt8) (hs : s.length ≤ 1000000) : PCall Tryz.prog 43 [.str s] (.str (sealS s)) := by
  refine pcall_go Tryz.func43 cm2 ?_
  simp only [U2, shr32', conv32_8, reduceIte, reduceCtorEq, Nat.reduceEqDiff, Nat.reduceAdd, Int.reduceLT, Int.reduceLE, Int.reduceNeg, Int.reduceEq, Nat.reduceLT, Nat.reduceSub, Nat.reduceMul, Nat.reduceBEq, Nat.reduceLeDiff, Int.reduceBEq, Int.reduceBNe, Int.reduceToNat, bA]
  refine callI (sum_spec s hs) ?_
  simp only [U2, shr32', conv32_8, reduceIte, reduceCtorEq, Nat.reduceEqDiff, Nat.reduceAdd, Int.reduceLT, Int.reduceLE, Int.reduceNeg, Int.reduceEq, Nat.reduceLT, Nat.reduceSub, Nat.reduceMul, Nat.reduceBEq, Nat.reduceLeDiff, Int.reduceBEq, Int.reduceBNe, Int.reduceToNat, bA]
  rw [binS_add (by simp only [List.length_cons, List.length_nil]; omega)]
  simp only [U2, reduceIte, reduceCtorEq, Nat.reduceEqDiff, Nat.reduceAdd, Int.reduceLT, Int.reduceLE, Int.reduceNeg, Int.reduceEq, Nat.reduceLT, Nat.reduceSub, Nat.reduceMul, Nat.reduceBEq, Nat.reduceLeDiff, Int.reduceBEq, Int.reduceBNe, Int.reduceToNat, bA]; rfl

theorem seal_len (s : List UInt8) : (sealS s).length = s.length + 4 := by simp [sealS, tail4]

/-- What is opened, or the error. -/
def openS (s : List UInt8) : List UInt8 × Int :=
  if s.length < 4 then ([], 5) else if sealS (s.take (s.length - 4)) = s then (s.take (s.length - 4), 0) else ([], 6)

theorem open_spec (s : List UInt8) (hs : s.length ≤ 1000000) : PCall Tryz.prog 46 [.str s] (.tup [.str (openS s).1, .int .i64 (openS s).2]) := by
  refine pcall_go Tryz.func46 cm1 ?_
  have hw : IntKind.i64.wrap ((s.length : Int) - 4) = (s.length : Int) - 4 := wrapI (by omega) (by omega)
  simp only [U1, hw, reduceIte, reduceCtorEq, Nat.reduceEqDiff, Nat.reduceAdd, Int.reduceLT, Int.reduceLE, Int.reduceNeg, Int.reduceEq, Nat.reduceLT, Nat.reduceSub, Nat.reduceMul, Nat.reduceBEq, Nat.reduceLeDiff, Int.reduceBEq, Int.reduceBNe, Int.reduceToNat, bA]
  refine ⟨fun h => ?_, fun h => ?_⟩
  · have : s.length < 4 := by omega
    simp only [U1, openS, if_pos this, reduceIte, reduceCtorEq, Nat.reduceEqDiff, Nat.reduceAdd, Int.reduceLT, Int.reduceLE, Int.reduceNeg, Int.reduceEq, Nat.reduceLT, Nat.reduceSub, Nat.reduceMul, Nat.reduceBEq, Nat.reduceLeDiff, Int.reduceBEq, Int.reduceBNe, Int.reduceToNat, bA]
  · have h4 : ¬ s.length < 4 := by simp at h; omega
    have hc : (s.length : Int) - 4 = ((s.length - 4 : Nat) : Int) := by omega
    simp only [U1, hc, sstrV_to (show s.length - 4 ≤ s.length by omega), reduceIte, reduceCtorEq, Nat.reduceEqDiff, Nat.reduceAdd, Int.reduceLT, Int.reduceLE, Int.reduceNeg, Int.reduceEq, Nat.reduceLT, Nat.reduceSub, Nat.reduceMul, Nat.reduceBEq, Nat.reduceLeDiff, Int.reduceBEq, Int.reduceBNe, Int.reduceToNat, bA]
    refine callI (seal_spec _ (by simp; omega)) ?_
    simp only [U1, hc, sstrV_to (show s.length - 4 ≤ s.length by omega), reduceIte, reduceCtorEq, Nat.reduceEqDiff, Nat.reduceAdd, Int.reduceLT, Int.reduceLE, Int.reduceNeg, Int.reduceEq, Nat.reduceLT, Nat.reduceSub, Nat.reduceMul, Nat.reduceBEq, Nat.reduceLeDiff, Int.reduceBEq, Int.reduceBNe, Int.reduceToNat, bA]
    refine ⟨fun h => ?_, fun h => ?_⟩
    · have : ¬ sealS (s.take (s.length - 4)) = s := by simpa using h
      simp only [U1, openS, if_neg h4, if_neg this, reduceIte, reduceCtorEq, Nat.reduceEqDiff, Nat.reduceAdd, Int.reduceLT, Int.reduceLE, Int.reduceNeg, Int.reduceEq, Nat.reduceLT, Nat.reduceSub, Nat.reduceMul, Nat.reduceBEq, Nat.reduceLeDiff, Int.reduceBEq, Int.reduceBNe, Int.reduceToNat, bA]
    · have : sealS (s.take (s.length - 4)) = s := by simpa using h
      simp only [U1, openS, if_neg h4, if_pos this, reduceIte, reduceCtorEq, Nat.reduceEqDiff, Nat.reduceAdd, Int.reduceLT, Int.reduceLE, Int.reduceNeg, Int.reduceEq, Nat.reduceLT, Nat.reduceSub, Nat.reduceMul, Nat.reduceBEq, Nat.reduceLeDiff, Int.reduceBEq, Int.reduceBNe, Int.reduceToNat, bA]
end Go.Proofs.YtdgpiobmncohjaaGreat.Aw
namespace Go.Proofs.YtdgpiobmncohjaaGreat.Aw
open Go.RowKit

theorem open_seal (s : List UInt8) : openS (sealS s) = (s, 0) := by
  have h := seal_len s
  have h1 : (sealS s).length - 4 = s.length := by omega
  have h2 : (sealS s).take s.length = s := by simp [sealS]
  rw [openS, if_neg (by omega), h1, h2, if_pos rfl]

end Go.Proofs.YtdgpiobmncohjaaGreat.Aw
namespace Go.Proofs.YtdgpiobmncohjaaGreat.Aw
open Go.RowKit

end Go.Proofs.YtdgpiobmncohjaaGreat.Aw
namespace Go.Proofs.YtdgpiobmncohjaaGreat.Aw
open Go.RowKit

def leB : Nat → Nat → List UInt8
  | 0, _ => []
  | w + 1, n => UInt8.ofNat n :: leB w (n / 256)
def leN : List UInt8 → Nat
  | [] => 0
  | b :: r => b.toNat + 256 * leN r

theorem leB_len : ∀ w n, (leB w n).length = w
  | 0, _ => rfl
  | w + 1, n => by simp [leB, leB_len w]
theorem leN_leB : ∀ w n, leN (leB w n) = n % 256 ^ w
  | 0, n => by simp [leB, leN, Nat.mod_one]
  | w + 1, n => by
    rw [leB, leN, leN_leB w, UInt8.toNat_ofNat', show 256 ^ (w + 1) = 256 * 256 ^ w by rw [Nat.pow_succ, Nat.mul_comm], Nat.mod_mul]
theorem leN_lt : ∀ l : List UInt8, leN l < 256 ^ l.length
  | [] => by simp [leN]
  | b :: r => by
    have h := leN_lt r
    have hb : b.toNat < 256 := b.toBitVec.isLt
    rw [leN, List.length_cons, Nat.pow_succ]; omega
theorem leB_leN : ∀ l : List UInt8, leB l.length (leN l) = l
  | [] => rfl
  | b :: r => by
    have hb : b.toNat < 256 := b.toBitVec.isLt
    have e : (b.toNat + 256 * leN r) / 256 = leN r := by omega
    rw [List.length_cons, leN, leB, e, leB_leN r]
    congr 1
    apply UInt8.toNat_inj.1
    rw [UInt8.toNat_ofNat']; omega
/-- A number from its highest byte on, as it is read from the last byte back. -/
theorem leN_step {l : List UInt8} {i : Nat} (h : i < l.length) : leN (l.drop i) = 256 * leN (l.drop (i + 1)) + l[i].toNat := by
  rw [List.drop_eq_getElem_cons h, leN]; omega
theorem pow256 (w : Nat) : 256 ^ w = 2 ^ (8 * w) := by rw [Nat.pow_mul]
theorem w64 {n : Nat} (h : n < 18446744073709551616) : IntKind.u64.wrap (n : Int) = n := by rw [wrap64]; omega
theorem byte8 (n : Nat) : IntKind.u8.wrap (n : Int) = ((UInt8.ofNat n).toNat : Int) := by rw [wrap8, UInt8.toNat_ofNat']; omega
theorem shr64N {n : Nat} (h : n < 18446744073709551616) (k : Nat) : shI .shr .u64 (n : Int) (k : Int) = some (.int .u64 ((n / 2 ^ k : Nat) : Int)) := by
  have e : (n : Int).fdiv (2 ^ min k 64) = ((n / 2 ^ k : Nat) : Int) := by
    rw [Int.fdiv_eq_ediv_of_nonneg _ (Int.le_of_lt (Int.pow_pos (by decide)))]
    by_cases hk : k ≤ 64
    · rw [Nat.min_eq_left hk]; simp
    · have hn : n < 2 ^ 64 := by simpa using h
      rw [Nat.min_eq_right (by omega), Nat.div_eq_of_lt (Nat.lt_of_lt_of_le hn (Nat.pow_le_pow_right (by decide) (by omega)))]
      have : ((n : Int) / 2 ^ 64) = ((n / 2 ^ 64 : Nat) : Int) := by simp
      rw [this, Nat.div_eq_of_lt hn]
  simp only [shI, IntKind.bits]
  rw [if_neg (by omega), Int.toNat_natCast, e]
theorem shr64' {n : Nat} (h : n < 18446744073709551616) (k : Nat) : shI .shr .u64 (n : Int) (no_index (OfNat.ofNat k : Int)) = some (.int .u64 ((n / 2 ^ (OfNat.ofNat k : Nat) : Nat) : Int)) := shr64N h k
theorem shl64_8 (n : Nat) : shI .shl .u64 (n : Int) 8 = some (.int .u64 ((n * 256 % 18446744073709551616 : Nat) : Int)) := by
  simp only [shI, IntKind.bits]
  have e : (n : Int) * 2 ^ min (8 : Int).toNat 64 = ((n * 256 : Nat) : Int) := by
    have : min (8 : Int).toNat 64 = 8 := by decide
    rw [this]; simp
  rw [if_neg (by omega), e, wrap64]; rfl
theorem or64 {a b : Nat} (ha : a % 256 = 0) (hb : b < 256) (h : a < 18446744073709551616) : binI .or .u64 (a : Int) (b : Int) = some (.int .u64 ((a + b : Nat) : Int)) := by
  have h0 : binI .or .u64 (a : Int) (b : Int) = some (.int .u64 (IntKind.u64.wrap ((BitVec.ofInt 64 (a : Int) ||| BitVec.ofInt 64 (b : Int)).toNat : Int))) := rfl
  have e : (BitVec.ofInt 64 (a : Int) ||| BitVec.ofInt 64 (b : Int)).toNat = a + b := by
    rw [BitVec.ofInt_natCast, BitVec.ofInt_natCast, BitVec.toNat_or, BitVec.toNat_ofNat, BitVec.toNat_ofNat, Nat.mod_eq_of_lt (by simpa using h), Nat.mod_eq_of_lt (by have := h; simp; omega)]
    obtain ⟨c, rfl⟩ : ∃ c, a = 2 ^ 8 * c := ⟨a / 256, by simp; omega⟩
    rw [Nat.two_pow_add_eq_or_of_lt hb]
  rw [h0, e, w64 (by omega)]
end Go.Proofs.YtdgpiobmncohjaaGreat.Aw
namespace Go.Proofs.YtdgpiobmncohjaaGreat.Aw
open Go.RowKit

theorem width_spec (w : Int) : PCall Tryz.prog 75 [.int .i64 w] (.bool (decide (1 ≤ w) && decide (w ≤ 8))) := by
  refine pcall_go Tryz.func75 cm22 ?_
  by_cases h : 1 ≤ w
  · have d : decide (1 ≤ w) = true := by simp [h]
    simp only [U22, d, seval, bA]
  · have d : decide (1 ≤ w) = false := by simp [h]
    simp only [U22, d, seval, bA]
theorem fits_spec (n w : Nat) (hn : n < 18446744073709551616) (h1 : 1 ≤ w) (h8 : w ≤ 8) : PCall Tryz.prog 58 [.int .u64 n, .int .i64 w] (.bool (decide (n < 256 ^ w))) := by
  refine pcall_go Tryz.func58 cm20 ?_
  have e : IntKind.i64.wrap (8 * (w : Int)) = ((8 * w : Nat) : Int) := by rw [wrapI (by omega) (by omega)]; omega
  by_cases h : w = 8
  · have d : ((w : Int) == 8) = true := by simp; omega
    have d2 : decide (n < 256 ^ w) = true := by subst h; simpa using hn
    simp only [U20, d, d2, seval, bA]
  · have d : ((w : Int) == 8) = false := by simp; omega
    simp only [U20, d, e, shr64N hn, seval, bA]
    rw [pow256]
    have : (n / 2 ^ (8 * w) = 0) ↔ n < 2 ^ (8 * w) := Nat.div_eq_zero_iff_lt (Nat.pow_pos (by decide))
    by_cases hd : n < 2 ^ (8 * w)
    · have e0 := this.2 hd
      rw [e0]; simp [hd]
    · have h0 : ¬ n / 2 ^ (8 * w) = 0 := fun h => hd (this.1 h)
      have h1 : (((n / 2 ^ (8 * w) : Nat) : Int) == 0) = false := by simp only [beq_eq_false_iff_ne, ne_eq]; omega
      rw [h1]; simp [hd]
theorem laid_1 (n : Nat) (hn : n < 18446744073709551616) : PCall Tryz.prog 60 [.int .u64 n, .int .i64 1] (.str (leB 1 n)) := by
  refine pcall_go Tryz.func60 cm21 ?_
  simp only [U21, byte8, shr64' hn, seval, bA]
  simp [leB, Nat.div_div_eq_div_mul]
theorem laid_2 (n : Nat) (hn : n < 18446744073709551616) : PCall Tryz.prog 60 [.int .u64 n, .int .i64 2] (.str (leB 2 n)) := by
  refine pcall_go Tryz.func60 cm21 ?_
  simp only [U21, byte8, shr64' hn, seval, bA]
  simp [leB, Nat.div_div_eq_div_mul]
theorem laid_3 (n : Nat) (hn : n < 18446744073709551616) : PCall Tryz.prog 60 [.int .u64 n, .int .i64 3] (.str (leB 3 n)) := by
  refine pcall_go Tryz.func60 cm21 ?_
  simp only [U21, byte8, shr64' hn, seval, bA]
  simp [leB, Nat.div_div_eq_div_mul]
theorem laid_4 (n : Nat) (hn : n < 18446744073709551616) : PCall Tryz.prog 60 [.int .u64 n, .int .i64 4] (.str (leB 4 n)) := by
  refine pcall_go Tryz.func60 cm21 ?_
  simp only [U21, byte8, shr64' hn, seval, bA]
  simp [leB, Nat.div_div_eq_div_mul]
theorem laid_5 (n : Nat) (hn : n < 18446744073709551616) : PCall Tryz.prog 60 [.int .u64 n, .int .i64 5] (.str (leB 5 n)) := by
  refine pcall_go Tryz.func60 cm21 ?_
  simp only [U21, byte8, shr64' hn, seval, bA]
  simp [leB, Nat.div_div_eq_div_mul]
theorem laid_6 (n : Nat) (hn : n < 18446744073709551616) : PCall Tryz.prog 60 [.int .u64 n, .int .i64 6] (.str (leB 6 n)) := by
  refine pcall_go Tryz.func60 cm21 ?_
  simp only [U21, byte8, shr64' hn, seval, bA]
  simp [leB, Nat.div_div_eq_div_mul]
theorem laid_7 (n : Nat) (hn : n < 18446744073709551616) : PCall Tryz.prog 60 [.int .u64 n, .int .i64 7] (.str (leB 7 n)) := by
  refine pcall_go Tryz.func60 cm21 ?_
  simp only [U21, byte8, shr64' hn, seval, bA]
  simp [leB, Nat.div_div_eq_div_mul]
theorem laid_8 (n : Nat) (hn : n < 18446744073709551616) : PCall Tryz.prog 60 [.int .u64 n, .int .i64 8] (.str (leB 8 n)) := by
  refine pcall_go Tryz.func60 cm21 ?_
  simp only [U21, byte8, shr64' hn, seval, bA]
  simp [leB, Nat.div_div_eq_div_mul]
theorem laid_spec (n w : Nat) (hn : n < 18446744073709551616) (h1 : 1 ≤ w) (h8 : w ≤ 8) : PCall Tryz.prog 60 [.int .u64 n, .int .i64 w] (.str (leB w n)) := by
  have : w = 1 ∨ w = 2 ∨ w = 3 ∨ w = 4 ∨ w = 5 ∨ w = 6 ∨ w = 7 ∨ w = 8 := by omega
  rcases this with rfl | rfl | rfl | rfl | rfl | rfl | rfl | rfl
  · exact laid_1 n hn
  · exact laid_2 n hn
  · exact laid_3 n hn
  · exact laid_4 n hn
  · exact laid_5 n hn
  · exact laid_6 n hn
  · exact laid_7 n hn
  · exact laid_8 n hn

/-- Is it a width? -/
def wid (w : Int) : Bool := decide (1 ≤ w) && decide (w ≤ 8)
def getS (s : List UInt8) (a w : Int) : Nat × Int :=
  if wid w = false ∨ a < 0 then (0, 1) else if (s.length : Int) - a < w then (0, 5) else (leN ((s.drop a.toNat).take w.toNat), 0)
theorem wid_iff {w : Int} : wid w = true ↔ 1 ≤ w ∧ w ≤ 8 := by simp [wid]
end Go.Proofs.YtdgpiobmncohjaaGreat.Aw
namespace Go.Proofs.YtdgpiobmncohjaaGreat.Aw
open Go.RowKit

theorem get_spec (s : List UInt8) (a w : Int) (hs : s.length ≤ 9223372036854775807) (ha1 : -9223372036854775808 ≤ a) (ha2 : a ≤ 9223372036854775807) (hw1 : -9223372036854775808 ≤ w) (hw2 : w ≤ 9223372036854775807) :
    PCall Tryz.prog 69 [.str s, .int .i64 a, .int .i64 w] (.tup [.int .u64 (getS s a w).1, .int .i64 (getS s a w).2]) := by
  refine pcall_go Tryz.func69 cm17 ?_
  simp only [U17, seval, bA]
  refine callI (width_spec w) ?_
  by_cases h : wid w = true
  · have d : (decide (1 ≤ w) && decide (w ≤ 8)) = true := h
    have hw := wid_iff.1 h
    obtain ⟨k, rfl⟩ : ∃ k : Nat, w = k := ⟨w.toNat, by omega⟩
    by_cases h2 : a < 0
    · have d2 : decide (a < 0) = true := by simpa using h2
      simp only [U17, d, d2, seval, bA]
      simp [getS, h2]
    · have d2 : decide (a < 0) = false := by simpa using h2
      obtain ⟨i, rfl⟩ : ∃ i : Nat, a = i := ⟨a.toNat, by omega⟩
      by_cases h3 : (s.length : Int) < i
      · have d3 : decide ((s.length : Int) < (i : Int)) = true := by simpa using h3
        simp only [U17, d, d2, d3, seval, bA]
        have h4 : (s.length : Int) - i < k := by omega
        simp [getS, h, h4, h2]
      · have d3 : decide ((s.length : Int) < (i : Int)) = false := by simpa using h3
        have e : IntKind.i64.wrap ((s.length : Int) - (i : Int)) = (s.length : Int) - i := wrapI (by omega) (by omega)
        by_cases h4 : (s.length : Int) - i < k
        · have d4 : decide ((s.length : Int) - (i : Int) < (k : Int)) = true := by simpa using h4
          simp only [U17, d, d2, d3, e, d4, seval, bA]
          simp [getS, h, h4, h2]
        · have d4 : decide ((s.length : Int) - (i : Int) < (k : Int)) = false := by simpa using h4
          have e5 : IntKind.i64.wrap ((k : Int) - 1) = (k : Int) - 1 := wrapI (by omega) (by omega)
          simp only [U17, d, d2, d3, e, d4, e5, seval, bA]
          obtain ⟨l, hl⟩ : ∃ l, l = (s.drop i).take k := ⟨_, rfl⟩
          have hll : l.length = k := by rw [hl]; simp; omega
          refine loopF (fun j : Nat => ⟨ofL [(0, .str s), (1, .int .i64 i), (8, .int .u64 (leN (l.drop (k - j)))), (9, .int .i64 ((k : Int) - 1 - j))], []⟩) (fun j => j ≤ k) (fun j => k - j) 0 ?_ (by omega) ?_
          · have : l.drop (k - 0) = [] := by simp [hll]
            simp only [U17, this, seval, bA]
            all_goals simp [leN]
          · intro j hj
            have hlt := leN_lt (l.drop (k - j))
            by_cases h5 : j = k
            · have d5 : decide (0 ≤ (k : Int) - 1 - (j : Int)) = false := by simp; omega
              subst h5
              simp only [U17, d5, seval, bA]
              have hg : getS s i j = (leN l, 0) := by
                simp only [getS, h, Int.toNat_natCast, hl]
                rw [if_neg (by simp), if_neg h4]
              simp [hg]
            · have d5 : decide (0 ≤ (k : Int) - 1 - (j : Int)) = true := by simp; omega
              have hlen : (l.drop (k - j)).length = j := by simp [hll]; omega
              rw [hlen] at hlt
              have hpow : 256 ^ j ≤ 256 ^ 7 := Nat.pow_le_pow_right (by decide) (by omega)
              have e256 : 256 ^ 7 = 72057594037927936 := by decide
              have em : leN (l.drop (k - j)) * 256 % 18446744073709551616 = leN (l.drop (k - j)) * 256 := Nat.mod_eq_of_lt (by omega)
              have hix : i + (k - 1 - j) < s.length := by omega
              have e6 : IntKind.i64.wrap ((i : Int) + ((k : Int) - 1 - (j : Int))) = ((i + (k - 1 - j) : Nat) : Int) := by rw [wrapI (by omega) (by omega)]; omega
              have e7 : IntKind.i64.wrap ((k : Int) - 1 - (j : Int) - 1) = (k : Int) - 1 - ((j + 1 : Nat) : Int) := by rw [wrapI (by omega) (by omega)]; omega
              have hb : (s[i + (k - 1 - j)]).toNat < 256 := (s[i + (k - 1 - j)]).toBitVec.isLt
              have e8 : IntKind.u64.wrap ((s[i + (k - 1 - j)]).toNat : Int) = ((s[i + (k - 1 - j)]).toNat : Int) := w64 (by omega)
              have hst : leN (l.drop (k - (j + 1))) = leN (l.drop (k - j)) * 256 + (s[i + (k - 1 - j)]).toNat := by
                have hlt2 : k - (j + 1) < l.length := by omega
                rw [leN_step hlt2, show k - (j + 1) + 1 = k - j by omega]
                have : l[k - (j + 1)] = s[i + (k - 1 - j)] := by
                  subst hl
                  simp only [List.getElem_take, List.getElem_drop]
                  congr 1; omega
                rw [this]; omega
              simp only [U17, d5, shl64_8, em, e6, idxsV_at hix, e8, or64 (a := leN (l.drop (k - j)) * 256) (b := (s[i + (k - 1 - j)]).toNat) (by omega) hb (by omega), e7, seval, bA]
              refine ⟨j + 1, ?_, by omega, by omega⟩
              rw [hst]
  · have h' : wid w = false := by simpa using h
    have d : (decide (1 ≤ w) && decide (w ≤ 8)) = false := h'
    simp only [U17, d, seval, bA]
    simp [getS, h']
theorem wrong_spec (w : Int) : PCall Tryz.prog 57 [.int .i64 w] (.bool (!wid w)) := by
  refine pcall_go Tryz.func57 cm23 ?_
  simp only [U23, seval, bA]
  refine callI (width_spec w) ?_
  simp only [U23, seval, bA]
  all_goals rfl
def idxP (p : Int → Bool) : List Int → Nat → Int
  | [], _ => -1
  | x :: r, i => if p x then i else idxP p r (i + 1)
theorem idxP_at {p : Int → Bool} {l : List Int} {i : Nat} (h : i < l.length) : idxP p (l.drop i) i = if p l[i] then (i : Int) else idxP p (l.drop (i + 1)) (i + 1) := by
  rw [List.drop_eq_getElem_cons h, idxP]
theorem idxP_any {p : Int → Bool} : ∀ (l : List Int) (i : Nat), decide (0 ≤ idxP p l i) = l.any p
  | [], i => by simp [idxP]
  | x :: r, i => by
    rw [idxP, List.any_cons]
    by_cases h : p x = true
    · simp [h]
    · simp only [Bool.not_eq_true] at h; simp [h, idxP_any r (i + 1)]
theorem idx_spec (g : Nat) (p : Int → Bool) (l : List Int) (hl : l.length ≤ 1000000) (hp : ∀ x, PCall Tryz.prog g [.int .i64 x] (.bool (p x))) :
    PCall Tryz.prog 74 [.slc (rowsZ .i64 l), .fn (.func g) [] []] (.int .i64 (idxP p l 0)) := by
  refine pcall_go Tryz.func74 cm55 ?_
  simp only [U55, seval, bA]
  refine loopF (fun i : Nat => ⟨ofL [(0, .slc (rowsZ .i64 l)), (1, .fn (.func g) [] []), (7, .int .i64 l.length), (8, .int .i64 i)], []⟩) (fun i => i ≤ l.length ∧ idxP p (l.drop i) i = idxP p l 0) (fun i => l.length - i) 0 ?_ ⟨Nat.zero_le _, rfl⟩ ?_
  · simp only [U55, seval, bA]
    all_goals rfl
  · intro i ⟨hi, he⟩
    by_cases h : i < l.length
    · have d : decide ((i : Int) < (l.length : Int)) = true := by simpa using h
      have e1 : IntKind.i64.wrap ((i : Int) + 1) = ((i + 1 : Nat) : Int) := by rw [wrapI (by omega) (by omega)]; omega
      simp only [U55, d, islV_Z h, seval, bA]
      refine callI (hp _) ?_
      rw [idxP_at h] at he
      by_cases hq : p l[i] = true
      · simp only [U55, hq, e1, seval, bA]
        simp only [hq, if_true] at he
        rw [← he]
      · simp only [Bool.not_eq_true] at hq
        simp only [U55, hq, e1, seval, bA]
        simp only [hq, Bool.false_eq_true, if_false] at he
        exact ⟨i + 1, rfl, ⟨by omega, he⟩, by omega⟩
    · have d : decide ((i : Int) < (l.length : Int)) = false := by simpa using h
      have : i = l.length := by omega
      subst this
      simp only [U55, d, seval, bA]
      rw [← he]; simp [idxP]
theorem contains_spec (g : Nat) (p : Int → Bool) (l : List Int) (hl : l.length ≤ 1000000) (hp : ∀ x, PCall Tryz.prog g [.int .i64 x] (.bool (p x))) :
    PCall Tryz.prog 56 [.slc (rowsZ .i64 l), .fn (.func g) [] []] (.bool (l.any p)) := by
  refine pcall_go Tryz.func56 cm47 ?_
  simp only [U47, seval, bA]
  refine callI (idx_spec g p l hl hp) ?_
  simp only [U47, seval, bA]
  rw [idxP_any]
def badW (ws : List Int) : Bool := ws.any fun w => !wid w
theorem badW_get {ws : List Int} (h : badW ws = false) {i : Nat} (hi : i < ws.length) : 1 ≤ ws[i] ∧ ws[i] ≤ 8 := by
  simp only [badW, List.any_eq_false] at h
  have := h ws[i] (List.getElem_mem hi)
  exact wid_iff.1 (by simpa using this)
/-- What is taken by widths, all of them widths. -/
def takeL : List UInt8 → List Int → Option (List Nat × List UInt8)
  | s, [] => some ([], s)
  | s, w :: ws => if s.length < w.toNat then none else match takeL (s.drop w.toNat) ws with
    | none => none
    | some (ns, r) => some (leN (s.take w.toNat) :: ns, r)
def takeS (s : List UInt8) (ws : List Int) : List Nat × List UInt8 × Int :=
  if badW ws = true then ([], [], 1) else match takeL s ws with
  | none => ([], [], 5)
  | some (ns, r) => (ns, r, 0)
/-- What is taken by the widths from one on, behind those of others. -/
def goOn (s : List UInt8) (ws : List Int) (ns : List Nat) : List Nat × List UInt8 × Int :=
  match takeL s ws with
  | none => ([], [], 5)
  | some (ms, r) => (ns ++ ms, r, 0)
theorem goOn_nil {s ns} : goOn s [] ns = (ns, s, 0) := by simp [goOn, takeL]
theorem goOn_short {s : List UInt8} {w ws ns} (h : s.length < w.toNat) : goOn s (w :: ws) ns = ([], [], 5) := by simp [goOn, takeL, h]
theorem goOn_one {s : List UInt8} {w ws ns} (h : ¬ s.length < w.toNat) : goOn s (w :: ws) ns = goOn (s.drop w.toNat) ws (ns ++ [leN (s.take w.toNat)]) := by
  simp only [goOn, takeL, h, if_false]
  cases takeL (s.drop w.toNat) ws with
  | none => rfl
  | some x => obtain ⟨a, b⟩ := x; simp
theorem takeS_ok {s ws} (h : badW ws = false) : takeS s ws = goOn s ws [] := by
  simp only [takeS, h, goOn]; cases takeL s ws <;> simp
theorem takeL_drop {s : List UInt8} {w : Int} {ws : List Int} {a i : Nat} (h : i < ws.length) (ha : a ≤ s.length) (h2 : ¬ s.length - a < ws[i].toNat) (ns : List Nat) :
    goOn (s.drop a) (ws.drop i) ns = goOn (s.drop (a + ws[i].toNat)) (ws.drop (i + 1)) (ns ++ [leN ((s.drop a).take ws[i].toNat)]) := by
  rw [List.drop_eq_getElem_cons h, goOn_one (by simpa using h2), List.drop_drop]

theorem take_spec (s : List UInt8) (ws : List Int) (hs : s.length ≤ 9223372036854775807) (hw : ws.length ≤ 300) :
    PCall Tryz.prog 47 [.str s, .slc (rowsZ .i64 ws)] (.tup [.slc (rowsN .u64 (takeS s ws).1), .str (takeS s ws).2.1, .int .i64 (takeS s ws).2.2]) := by
  refine pcall_go Tryz.func47 cm19 ?_
  simp only [U19, seval, bA]
  refine callI (contains_spec _ _ ws (by omega) wrong_spec) ?_
  by_cases hb : badW ws = true
  · have d : (ws.any fun w => !wid w) = true := hb
    simp only [U19, d, seval, bA]
    simp [takeS, hb, rowsN]
  · simp only [Bool.not_eq_true] at hb
    have d : (ws.any fun w => !wid w) = false := hb
    simp only [U19, d, seval, bA]
    refine loopF (fun x : Nat × Nat × List Nat => ⟨ofL [(0, .str s), (4, .osl 0 0 x.2.2.length), (7, .int .i64 x.2.1), (14, .slc (rowsZ .i64 ws)), (15, .int .i64 ws.length), (16, .int .i64 x.1)], [.list 1 (rowsN .u64 x.2.2)]⟩)
      (fun x => x.1 ≤ ws.length ∧ x.2.1 ≤ s.length ∧ x.2.2.length = x.1 ∧ goOn (s.drop x.2.1) (ws.drop x.1) x.2.2 = takeS s ws) (fun x => ws.length - x.1) (0, 0, []) ?_ ⟨Nat.zero_le _, Nat.zero_le _, rfl, by rw [takeS_ok hb]; rfl⟩ ?_
    · simp only [U19, rowsN_nil, seval, bA]
      all_goals rfl
    · intro ⟨i, a, ns⟩ ⟨hi, ha, hn, he⟩
      simp only [] at hi ha hn he ⊢
      by_cases h : i < ws.length
      · have d1 : decide ((i : Int) < (ws.length : Int)) = true := by simpa using h
        have hwi := badW_get hb h
        have e1 : IntKind.i64.wrap ((i : Int) + 1) = ((i + 1 : Nat) : Int) := by rw [wrapI (by omega) (by omega)]; omega
        simp only [U19, d1, islV_Z h, seval, bA]
        refine callI (get_spec s a ws[i] hs (by omega) (by omega) (by omega) (by omega)) ?_
        have hwid : wid ws[i] = true := wid_iff.2 hwi
        by_cases h2 : s.length - a < ws[i].toNat
        · have hg : getS s a ws[i] = (0, 5) := by
            simp only [getS, hwid]
            rw [if_neg (by simp), if_pos (by omega)]
          have hr : takeS s ws = ([], [], 5) := by
            rw [← he, List.drop_eq_getElem_cons h, goOn_short (by simpa using h2)]
          simp only [U19, hg, hr, seval, bA]
          simp [rowsN]
        · have hg : getS s a ws[i] = (leN ((s.drop a).take ws[i].toNat), 0) := by
            simp only [getS, hwid]
            rw [if_neg (by simp), if_neg (by omega)]; simp
          have e2 : IntKind.i64.wrap ((a : Int) + ws[i]) = ((a + ws[i].toNat : Nat) : Int) := by rw [wrapI (by omega) (by omega)]; omega
          simp only [U19, hg, app_N (k := .u64) (l := ns) (ob := [AObj.list 1 (rowsN .u64 ns)]) (o := 0) (n := ns.length) (fb := []) (x := leN ((s.drop a).take ws[i].toNat)) rfl rfl rfl (by omega), e1, e2, seval, bA]
          refine ⟨(i + 1, a + ws[i].toNat, ns ++ [leN ((s.drop a).take ws[i].toNat)]), ?_, ⟨h, by show a + ws[i].toNat ≤ s.length; omega, by simp [hn], ?_⟩, by show ws.length - (i + 1) < ws.length - i; omega⟩
          · simp only [List.length_append, List.length_cons, List.length_nil]
          · rw [← he, takeL_drop (w := 0) h ha h2]
      · have d1 : decide ((i : Int) < (ws.length : Int)) = false := by simpa using h
        have : i = ws.length := by omega
        subst this
        have hr : takeS s ws = (ns, s.drop a, 0) := by rw [← he]; simp [goOn_nil]
        simp only [U19, d1, sstrV_from ha, hr, rowsO_all (rows := rowsN .u64 ns) rowsN_len.symm, seval, bA]

end Go.Proofs.YtdgpiobmncohjaaGreat.Aw
namespace Go.Proofs.YtdgpiobmncohjaaGreat.Aw
open Go.RowKit

end Go.Proofs.YtdgpiobmncohjaaGreat.Aw
namespace Go.Proofs.YtdgpiobmncohjaaGreat.Aw
open Go.RowKit

set_option maxHeartbeats 1000000 in
set_option maxRecDepth 100000 in
theorem cc_used (b : Nat) (w : World) (h0 : w.cell? ⟨b, 0, none⟩ = some (.pointer (some ⟨b, 0, none⟩))) :
    Calls Tryz.prog 76 #[.pointer (some ⟨b, 0, none⟩)] w fun e w' => e = .returned (.tuple #[]) ∧ w' = w := by
  obtain ⟨j, hj, hjs⟩ := Option.map_eq_some_iff.1 (show (Tryz.prog.info? 113).map (·.size) = some 2 by kernel_rfl)
  go_enter Tryz.func76, Tryz.ntmps76
  go_wp2
  rw [Lib.run_neq_ptr_same w _ Tryz.underlying110 hj]
  go_wp2
  go_end0
  exact ⟨rfl, rfl⟩
set_option maxHeartbeats 1000000 in
set_option maxRecDepth 100000 in
theorem cc_fresh (b : Nat) (w : World) (h0 : w.cell? ⟨b, 0, none⟩ = some (.pointer none)) (hsh : w.shape? b = some (113, 2)) (hfz : w.frozen? ⟨b, 0, none⟩ = false) :
    Calls Tryz.prog 76 #[.pointer (some ⟨b, 0, none⟩)] w fun e w' => e = .returned (.tuple #[]) ∧ w' = w.setCell ⟨b, 0, none⟩ (.pointer (some ⟨b, 0, none⟩)) := by
  obtain ⟨j, hj, hjs⟩ := Option.map_eq_some_iff.1 (show (Tryz.prog.info? 113).map (·.size) = some 2 by kernel_rfl)
  go_enter Tryz.func76, Tryz.ntmps76
  go_wp2
  rw [Lib.run_to_unsafe w ⟨b, 0, none⟩ Tryz.underlying110 Tryz.underlying162 hj (by rw [hjs]; decide) hsh (Nat.zero_lt_succ 1)]
  simp only [Result.andThen]
  rw [Oper.upon_value]
  go_wp2
  rw [run_callFunc_extern Tryz.func89 (by kernel_rfl) (by kernel_rfl) (by kernel_rfl) (e := Extern.AbiNoEscape.same) (by kernel_rfl)]
  rw [Lib.run_noEscape]
  simp only [Result.andThen]
  rw [Oper.upon_value]
  go_wp2
  rw [Lib.run_from_unsafe w ⟨b, 0, none⟩ Tryz.underlying162 Tryz.underlying110 hj hsh (by kernel_rfl)]
  simp only [Result.andThen]
  rw [Oper.upon_value]
  go_wp2
  go_end0
  exact ⟨rfl, rfl⟩

/-- The address that a builder keeps: none yet, or its own. -/
theorem copyCheck_i {o : Nat} {ob : List AObj} {p q : PV} (ho : ob[o]? = some (.tbox 113 [p, q])) (hp : p = .nilp ∨ p = .ref o 0) :
    ICall Tryz.prog 76 [.ref o 0] ob fun r ob' => r = .tup [] ∧ ob' = ob.set o (.tbox 113 [.ref o 0, q]) := by
  refine ⟨⟨okFn_spec (by kernel_rfl), _, _, rfl, rfl⟩, fun c w F l vs R hvs => ?_⟩
  obtain ⟨hl, hv⟩ := hvs
  match vs, hl with
  | [v], _ =>
    have h1 := hv 0 _ _ rfl rfl
    cases h1 with
    | @ref _ _ _ L hlo hb =>
      rcases R.objs o _ ho with h2 | ⟨L', h2, h3⟩
      · cases h2.1
      · rw [hlo] at h2; cases h2
        obtain ⟨_, hnil, cv, hbk, ⟨hcl, hcv⟩, hone⟩ := h3
        match cv, hcl with
        | [x, y], _ =>
          have hx := hcv 0 _ _ rfl rfl
          have hcell : w.cell? ⟨L.blk, 0, none⟩ = some x := by rw [cell_of_block hbk]; rfl
          rcases hp with rfl | rfl
          · have hxe : x = .pointer none := by cases hx; rfl
            subst hxe
            have hsh : w.shape? L.blk = some (113, 2) := by simp [World.shape?, hbk]
            have hfz : w.frozen? ⟨L.blk, 0, none⟩ = false := frozen_of_block hbk (fun j _ hj => by omega) (by simp)
            refine (cc_fresh L.blk w hcell hsh hfz).mono ?_
            rintro e w' ⟨rfl, rfl⟩
            have hst : stC ob [] (.ref o 0) [.ref o 0] = some (ob.set o (.tbox 113 [.ref o 0, q])) := by simp [stC, ho, setAt]
            obtain ⟨b, off, w', l', he, hrun, R', m'⟩ := stC_sound (P := Tryz.prog) R (R1.ref hlo hb) hst (RL.one (R1.ref hlo hb)) (by intro x hx; simp at hx; subst hx; rfl)
            cases he
            have hw : w' = w.setCell ⟨L.blk, 0, none⟩ (.pointer (some ⟨L.blk, 0, none⟩)) := by
              have hadd : (⟨L.blk, 0, none⟩ : Addr).add 0 = ⟨L.blk, 0, none⟩ := by simp [Addr.add]
              have h4 : (store ((⟨L.blk, 0, none⟩ : Addr).add 0) (.pointer (some ⟨L.blk, 0, none⟩))).run Tryz.prog w = .ok () (w.setCell ⟨L.blk, 0, none⟩ (.pointer (some ⟨L.blk, 0, none⟩))) := by
                rw [hadd, run_store Tryz.prog w _ _ _ rfl, hcell]
                simp [hfz]
              simp only [storeCells, Sem.run_bind, h4, Result.andThen_ok] at hrun
              cases hrun; rfl
            subst hw
            exact ⟨_, .tup [], _, F, l', rfl, R', m', R1.tup rfl (fun i c x h => by simp at h), rfl, rfl⟩
          · have hxe : x = .pointer (some ⟨L.blk, 0, none⟩) := by
              cases hx with
              | ref ho' hb' => rw [hlo] at ho'; cases ho'; rfl
            subst hxe
            refine (cc_used L.blk w hcell).mono ?_
            rintro e w' ⟨rfl, rfl⟩
            have hset : ob.set o (.tbox 113 [.ref o 0, q]) = ob := by
              apply List.ext_getElem?
              intro i
              rw [List.getElem?_set]
              split
              · rename_i e; subst e
                obtain ⟨h5, h6⟩ := List.getElem?_eq_some_iff.1 ho
                simp [h5, h6]
              · rfl
            exact ⟨_, .tup [], _, F, l, rfl, by rw [hset]; exact R, ⟨fun _ h => h, fun _ _ => rfl, LocExt.refl l⟩, R1.tup rfl (fun i c x h => by simp at h), rfl, rfl⟩
theorem writeString_i {bs t : List UInt8} {p : PV} (hp : p = .nilp ∨ p = .ref 1 0) (h1 : bs.length ≤ 16777216) (h2 : t.length ≤ 16777216) :
    ICall Tryz.prog 59 [.ref 1 0, .str t] [.buf 5 bs, .tbox 113 [p, .osl 0 0 bs.length]] fun r ob' => r = .tup [.int .i64 t.length, .nili] ∧ ob' = [.buf 5 (bs ++ t), .tbox 113 [.ref 1 0, .osl 0 0 (bs ++ t).length]] := by
  refine icall_dr Tryz.func59 cm60 ?_
  simp only [U60, seval, bA]
  refine ICall_mono ?_ (copyCheck_i rfl hp)
  rintro r ob' ⟨rfl, rfl⟩
  have ha : appsO [AObj.buf 5 bs, AObj.tbox 113 [PV.ref 1 0, PV.osl 0 0 bs.length]] [] 5 (PV.osl 0 0 bs.length) (PV.str t) = some (.osl 0 0 (bs.length + t.length), [AObj.buf 5 (bs ++ t), AObj.tbox 113 [PV.ref 1 0, PV.osl 0 0 bs.length]]) :=
    appsO_osl rfl rfl rfl h1 h2
  simp only [U60, ha, seval, bA]
  exact ⟨_, rfl, rfl⟩
theorem string_i {bs : List UInt8} {p : PV} (h1 : bs.length ≤ 16777216) :
    ICall Tryz.prog 61 [.ref 1 0] [.buf 5 bs, .tbox 113 [p, .osl 0 0 bs.length]] fun r ob' => r = .str bs := by
  refine icall_dr Tryz.func61 cm59 ?_
  have hu : usdV [AObj.buf 5 bs, AObj.tbox 113 [p, PV.osl 0 0 bs.length]] [] (.osl 0 0 bs.length) = some (if bs.length = 0 then .nilp else .lref 0 0 0 bs.length) := usdV_at rfl rfl rfl
  by_cases h : bs.length = 0
  · have hb : bs = [] := List.length_eq_zero_iff.1 h
    subst hb
    have hu2 : usdV [AObj.buf 5 [], AObj.tbox 113 [p, PV.osl 0 0 0]] [] (.osl 0 0 0) = some .nilp := hu
    have hr : rowsO (some (AObj.buf 5 [])) 0 0 = some (byteRows []) := rowsO_buf rfl
    simp only [U59, hu2, hr, byteRows_length, seval, bA]
    exact ⟨_, rfl, rfl⟩
  · have hs : ustV [AObj.buf 5 bs, AObj.tbox 113 [p, PV.osl 0 0 bs.length]] [] 5 (.lref 0 0 0 bs.length) (.int .i64 bs.length) = some (.str bs) := ustV_at rfl rfl rfl rfl (by omega) h1
    have hr : rowsO (some (AObj.buf 5 bs)) 0 bs.length = some (byteRows bs) := rowsO_buf rfl
    simp only [U59, hu, h, hs, hr, byteRows_length, seval, bA]
    exact ⟨_, rfl, rfl⟩
end Go.Proofs.YtdgpiobmncohjaaGreat.Aw
namespace Go.Proofs.YtdgpiobmncohjaaGreat.Aw
open Go.RowKit

def rowL : List Nat → List Int → Option (List UInt8)
  | n :: ns, w :: ws => if n < 256 ^ w.toNat then (rowL ns ws).map (leB w.toNat n ++ ·) else none
  | _, _ => some []
def rowS (ns : List Nat) (ws : List Int) : List UInt8 × Int :=
  if ns.length ≠ ws.length ∨ badW ws = true then ([], 1) else match rowL ns ws with
  | none => ([], 2)
  | some t => (t, 0)
def goR (ns : List Nat) (ws : List Int) (acc : List UInt8) : List UInt8 × Int :=
  match rowL ns ws with
  | none => ([], 2)
  | some t => (acc ++ t, 0)
theorem goR_nil {acc} : goR [] [] acc = (acc, 0) := by simp [goR, rowL]
theorem goR_bad {n ns} {w : Int} {ws acc} (h : ¬ n < 256 ^ w.toNat) : goR (n :: ns) (w :: ws) acc = ([], 2) := by simp [goR, rowL, h]
theorem goR_one {n ns} {w : Int} {ws acc} (h : n < 256 ^ w.toNat) : goR (n :: ns) (w :: ws) acc = goR ns ws (acc ++ leB w.toNat n) := by
  simp only [goR, rowL, h, if_true]; cases rowL ns ws <;> simp
theorem rowS_ok {ns ws} (h1 : ns.length = ws.length) (h2 : badW ws = false) : rowS ns ws = goR ns ws [] := by
  simp only [rowS, h1, h2, goR]; cases rowL ns ws <;> simp

theorem row_spec (ns : List Nat) (ws : List Int) (hl : ns.length ≤ 300) (hw : ws.length ≤ 300) (hn : ∀ n ∈ ns, n < 18446744073709551616) :
    PCall Tryz.prog 41 [.slc (rowsN .u64 ns), .slc (rowsZ .i64 ws)] (.tup [.str (rowS ns ws).1, .int .i64 (rowS ns ws).2]) := by
  refine pcall_go Tryz.func41 cm18 ?_
  by_cases h1 : ns.length = ws.length
  · have d1 : ((ns.length : Int) != (ws.length : Int)) = false := by simp; omega
    simp only [U18, d1, seval, bA]
    refine callI (contains_spec _ _ ws (by omega) wrong_spec) ?_
    by_cases hb : badW ws = true
    · have d : (ws.any fun w => !wid w) = true := hb
      simp only [U18, d, seval, bA]
      simp [rowS, hb]
    · simp only [Bool.not_eq_true] at hb
      have d : (ws.any fun w => !wid w) = false := hb
      simp only [U18, d, seval, bA]
      refine loopF (fun x : Nat × List UInt8 × PV => ⟨ofL [(1, .slc (rowsZ .i64 ws)), (6, .ref 1 0), (18, .slc (rowsN .u64 ns)), (19, .int .i64 ns.length), (20, .int .i64 x.1)], [.buf 5 x.2.1, .tbox 113 [x.2.2, .osl 0 0 x.2.1.length]]⟩)
        (fun x => x.1 ≤ ns.length ∧ x.2.1.length ≤ 8 * x.1 ∧ (x.2.2 = .nilp ∨ x.2.2 = .ref 1 0) ∧ goR (ns.drop x.1) (ws.drop x.1) x.2.1 = rowS ns ws) (fun x => ns.length - x.1) (0, [], .nilp) ?_ ⟨Nat.zero_le _, by simp, .inl rfl, (rowS_ok h1 hb).symm⟩ ?_
      · simp only [U18, St.keep, cutO, seval, bA]
        all_goals rfl
      · intro ⟨i, bs, p⟩ ⟨hi, hbs, hp, he⟩
        simp only [] at hi hbs hp he ⊢
        by_cases h : i < ns.length
        · have d2 : decide ((i : Int) < (ns.length : Int)) = true := by simpa using h
          have h' : i < ws.length := by omega
          have hwi := badW_get hb h'
          obtain ⟨k, hk⟩ : ∃ k : Nat, ws[i] = k := ⟨ws[i].toNat, by omega⟩
          have hk' : ws[i].toNat = k := by omega
          have e1 : IntKind.i64.wrap ((i : Int) + 1) = ((i + 1 : Nat) : Int) := by rw [wrapI (by omega) (by omega)]; omega
          have hni := hn _ (List.getElem_mem h)
          simp only [U18, d2, islV_N h, islV_Z h', hk, seval, bA]
          refine callI (fits_spec ns[i] k hni (by omega) (by omega)) ?_
          rw [List.drop_eq_getElem_cons h, List.drop_eq_getElem_cons h'] at he
          by_cases hf : ns[i] < 256 ^ k
          · have d3 : decide (ns[i] < 256 ^ k) = true := by simpa using hf
            rw [goR_one (by rw [hk']; exact hf), hk'] at he
            have hlk : (leB k ns[i]).length = k := leB_len k ns[i]
            simp only [U18, d2, islV_N h, islV_Z h', hk, d3, seval, bA]
            refine callI (laid_spec ns[i] k hni (by omega) (by omega)) ?_
            simp only [U18, d2, islV_N h, islV_Z h', hk, d3, seval, bA]
            refine ICall_mono ?_ (writeString_i hp (by omega) (by omega))
            rintro r ob' ⟨rfl, rfl⟩
            simp only [U18, e1, seval, bA]
            refine ⟨(i + 1, bs ++ leB k ns[i], .ref 1 0), ?_, ⟨h, by simp only [List.length_append]; omega, .inr rfl, he⟩, by show ns.length - (i + 1) < ns.length - i; omega⟩
            · simp only [List.length_append]
              all_goals rfl
          · have d3 : decide (ns[i] < 256 ^ k) = false := by simpa using hf
            rw [goR_bad (by rw [hk']; exact hf)] at he
            simp only [U18, d2, islV_N h, islV_Z h', hk, d3, ← he, seval, bA]
        · have d2 : decide ((i : Int) < (ns.length : Int)) = false := by simpa using h
          have hr : rowS ns ws = (bs, 0) := by
            rw [← he, List.drop_of_length_le (by omega), List.drop_of_length_le (by omega), goR_nil]
          simp only [U18, d2, seval, bA]
          refine ICall_mono ?_ (string_i (by omega))
          rintro r ob' rfl
          simp only [U18, hr, seval, bA]
  · have d1 : ((ns.length : Int) != (ws.length : Int)) = true := by simp; omega
    simp only [U18, d1, seval, bA]
    simp [rowS, h1]
end Go.Proofs.YtdgpiobmncohjaaGreat.Aw
