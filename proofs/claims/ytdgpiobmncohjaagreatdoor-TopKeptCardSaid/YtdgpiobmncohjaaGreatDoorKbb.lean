/-
 errors.As at the target '*api.Errno', as a contract; fault.Code.; Words of 32 bits in the walk, and what the functions of the seat compute.; The document's functions of the seat, and that they compute what the program's compute.; The sum is linear, and bits that are turned within 32 side by side are seen. Plain Lean, no program in sight.; Pages as bytes. Plain Lean.; The first of the least of those that count. Plain Lean.; What the functions of the package 'wear' compute.; What the package 'wear' answers.; What is known of an array of sixteen blocks of sixteen pages, and of a store over it. Plain Lean.; What the functions of the package 'page' compute, and the document's.; What the functions of the package 'page' compute, and the document's: writing and reading.
-/
import Derived.Test.YtdgpiobmncohjaaGreatDoorKba
import Derived.Test.YtdgpiobmncohjaaGreatDoorKay
import Derived.Test.YtdgpiobmncohjaaGreatDoorQa
import Derived.Test.YtdgpiobmncohjaaGreatDoorQb
import Derived.Test.YtdgpiobmncohjaaGreatDoorQc
import Derived.Test.YtdgpiobmncohjaaGreatDoorQp
import Derived.Test.YtdgpiobmncohjaaGreatDoorQl
import Derived.Test.YtdgpiobmncohjaaGreatDoorQn
import Derived.Test.YtdgpiobmncohjaaGreatDoorKax
import Derived.Test.YtdgpiobmncohjaaGreatDoorKao
import Derived.Test.YtdgpiobmncohjaaGreatDoorQs
set_option linter.all false
namespace Go.Proofs.YtdgpiobmncohjaaGreatDoor.Aw
open Go.RowKit
theorem as_i {ob : List AObj} {o t : Nat} {op : List UInt8} {a e x : Int} (ho : ob[o]? = some (.box [.str op, .int .i64 a, .ifc 36 (.int .i64 e)])) (ht : ob[t]? = some (.box [.int .i64 x])) :
  ICall Tryz.prog 123 [.ifc 144 (.ref o 0), .ifc 213 (.ref t 0)] ob fun r ob' => r = .bool true ∧ ob' = ob.set t (.box [.int .i64 e]) := by
 refine ⟨⟨⟨Tryz.f123, Tryz.func123, by kernel_rfl, by kernel_rfl⟩, _, _, rfl, rfl⟩, ?_⟩
 intro c w F l vs R hv
 obtain ⟨v1, vs1, rfl, h1, hv⟩ := hv.cons_inv
 obtain ⟨v2, vs2, rfl, h2, hv⟩ := hv.cons_inv
 have := hv.nil_inv; subst this
 cases h1 with
 | ifc h1 =>
 cases h2 with
 | ifc h2 =>
 obtain ⟨L1, lo1, bx1, rfl⟩ := h1.ref_inv
 have h2' := h2
 obtain ⟨L2, lo2, bx2, rfl⟩ := h2.ref_inv
 rcases R.objs o _ ho with g1 | ⟨L', g1, g2⟩
 ·simp at g1
 rw [lo1] at g1; cases g1
 obtain ⟨_, n1, cv1, e1, p1, p2, p3⟩ := g2
 rcases R.objs t _ ht with k1 | ⟨L', k1, k2⟩
 ·simp at k1
 rw [lo2] at k1; cases k1
 obtain ⟨_, n2, cv2, e2, q1, q2, q3⟩ := k2
 obtain ⟨y, hy1, hy2⟩ := p2.get (i := 2) (p := .ifc 36 (.int .i64 e)) rfl
 have hy : y = .iface 36 (.int .i64 e) := by
  cases hy2 with
  | ifc hh => rw [hh.int_inv]
 have c1 : w.cell? ⟨L1.blk, 2, none⟩ = some (.iface 36 (.int .i64 e)) := by rw [cell_of_block p1, List.getElem?_toArray, hy1, hy]
 obtain ⟨z, hz1, hz2⟩ := q2.get (i := 0) (p := .int .i64 x) rfl
 have c2 : w.cell? ⟨L2.blk, 0, none⟩ = some z := by rw [cell_of_block q1, List.getElem?_toArray, hz1]
 have hsz : 0 < cv2.toArray.size := by have := q2.1; simp at this ⊢; omega
 have c3 : w.frozen? ⟨L2.blk, 0, none⟩ = false := frozen_of_block q1 (free00 _) hsz
 refine (as_hit L1.blk ⟨L2.blk, 0, none⟩ e z w R.globOk c1 c2 c3).mono ?_
 rintro ev w' ⟨rfl, rfl⟩
 obtain ⟨W4, hW4⟩ : ∃ W4, (((w.alloc (.cells #[.pointer (some ⟨L2.blk, 0, none⟩)] 213)).alloc (.cells #[.pointer (some ⟨1, 213, none⟩), .pointer (some ⟨w.heap.size, 0, none⟩), .int .u64 150] 246)).alloc (.cells #[.pointer (some ⟨1, 213, none⟩), .pointer (some ⟨w.heap.size, 0, none⟩), .int .u64 150] 246)).alloc (.cells #[.int .i64 e] 36) = W4 := ⟨_, rfl⟩
 rw [hW4]
 have hB : Below w.heap.size w W4 := by
  rw [← hW4]
  have b1 := below_alloc (w := w) (o := .cells #[.pointer (some ⟨L2.blk, 0, none⟩)] 213)
  have b2 := below_alloc (w := w.alloc (.cells #[.pointer (some ⟨L2.blk, 0, none⟩)] 213)) (o := .cells #[.pointer (some ⟨1, 213, none⟩), .pointer (some ⟨w.heap.size, 0, none⟩), .int .u64 150] 246)
  have b3 := below_alloc (w := (w.alloc (.cells #[.pointer (some ⟨L2.blk, 0, none⟩)] 213)).alloc (.cells #[.pointer (some ⟨1, 213, none⟩), .pointer (some ⟨w.heap.size, 0, none⟩), .int .u64 150] 246)) (o := .cells #[.pointer (some ⟨1, 213, none⟩), .pointer (some ⟨w.heap.size, 0, none⟩), .int .u64 150] 246)
  have b4 := below_alloc (w := ((w.alloc (.cells #[.pointer (some ⟨L2.blk, 0, none⟩)] 213)).alloc (.cells #[.pointer (some ⟨1, 213, none⟩), .pointer (some ⟨w.heap.size, 0, none⟩), .int .u64 150] 246)).alloc (.cells #[.pointer (some ⟨1, 213, none⟩), .pointer (some ⟨w.heap.size, 0, none⟩), .int .u64 150] 246)) (o := .cells #[.int .i64 e] 36)
  exact ((b1.trans (b2.mono b1.size)).trans (b3.mono (b1.trans (b2.mono b1.size)).size)).trans (b4.mono ((b1.trans (b2.mono b1.size)).trans (b3.mono (b1.trans (b2.mono b1.size)).size)).size)
 obtain ⟨R4, m4⟩ := R.ext hB
 have hst : stC ob [] (.ref t 0) [.int .i64 e] = some (ob.set t (.box [.int .i64 e])) := by simp [stC, ht, setAt]
 have h24 : R1 W4 F l (.ref t 0) (.pointer (some ⟨L2.blk, 0, none⟩)) := .ref lo2 bx2
 obtain ⟨b, off, w', l', hp, hrun, R5, m5⟩ := stC_sound (P := Tryz.prog) R4 h24 hst (.one (.int .i64 e)) (by intro v hv; simp at hv; subst hv; rfl)
 simp only [Value.pointer.injEq, Option.some.injEq, Addr.mk.injEq, and_true] at hp
 obtain ⟨rfl, rfl⟩ := hp
 have c4 : W4.cell? ⟨L2.blk, 0, none⟩ = some z := by
  have := hB.block L2.blk (lt_of_cells q1)
  rw [cell_of_block (this.trans q1), List.getElem?_toArray, hz1]
 have c5 : W4.frozen? ⟨L2.blk, 0, none⟩ = false := frozen_of_block ((hB.block L2.blk (lt_of_cells q1)).trans q1) (free00 _) hsz
 have hw : w' = W4.setCell ⟨L2.blk, 0, none⟩ (.int .i64 e) := by
  simp only [storeCells, Sem.run_bind] at hrun
  rw [run_store Tryz.prog W4 _ _ _ (by rfl)] at hrun
  have e0 : (⟨L2.blk, 0, none⟩ : Addr).add 0 = ⟨L2.blk, 0, none⟩ := rfl
  rw [e0, c4] at hrun
  simp only [c5, Bool.false_eq_true, if_false, Result.andThen, Sem.run_pure, Result.ok.injEq, true_and] at hrun
  exact hrun.symm
 subst hw
 exact ⟨_, .bool true, _, F, l', rfl, R5, m4.trans m5, .bool true, rfl, rfl⟩
theorem code_nil (ob : List AObj) : RCall Tryz.prog 85 [.nili] ob (.int .i64 0) := by
 refine RCall.of (K := fun r ob' => r = .int .i64 0 ∧ ob' = ob) ?_ (fun r ob' h => ⟨h.1, [], by rw [h.2]; simp⟩) rfl
 refine icall_dr Tryz.func85 E85.h ?_
 simp only [U85, seval, bA]
 exact ⟨_, rfl, rfl⟩
theorem code_r {ob : List AObj} {e : Int} {r : PV} (h : WrapAt ob e r) : RCall Tryz.prog 85 [r] ob (.int .i64 e) := by
 rcases h with ⟨rfl, rfl⟩ | ⟨h0, o, op, a, rfl, ho⟩
 ·exact code_nil ob
 refine RCall.of (K := fun r ob' => r = .int .i64 e ∧ ∃ ex, ob' = ob ++ ex) ?_ (fun r ob' h => h) rfl
 refine icall_dr Tryz.func85 E85.h ?_
 have ho2 : ∀ b, (ob ++ [b])[o]? = some (.box [.str op, .int .i64 a, .ifc 36 (.int .i64 e)]) := fun b => apN ho [b]
 have g1 : ∀ b, (ob ++ [b])[ob.length]? = some b := fun b => by simp
 have s1 : ∀ b c, (ob ++ [b]).set ob.length c = ob ++ [c] := fun b c => by simp
 simp only [U85, g1, s1, seval, bA]
 refine callM (as_i (ho2 _) (g1 _)) ?_
 rintro r ob' ⟨rfl, rfl⟩
 rw [s1]
 simp only [U85, g1, s1, seval, bA]
 exact ⟨_, rfl, rfl, _, rfl⟩
open Go.RowKit
abbrev w32 (c : BitVec 32) : PV := .int .u32 c.toNat
abbrev b8 (b : UInt8) : PV := .int .u8 b.toNat
theorem wrap32 (n : Int) : IntKind.u32.wrap n = ((BitVec.ofInt 32 n).toNat : Int) := by
 have e : (2 : Int) ^ 32 = 4294967296 := by decide
 simp only [IntKind.wrap, IntKind.bits, IntKind.signed, Bool.false_and, e, BitVec.toNat_ofInt]
 show n % 4294967296 = _
 have : (0 : Int) ≤ n % 4294967296 := Int.emod_nonneg _ (by decide)
 simp only [Nat.reducePow, Int.cast_ofNat_Int]
 omega
theorem ofInt_toNat32 (c : BitVec 32) : BitVec.ofInt 32 (c.toNat : Int) = c := by
 rw [BitVec.ofInt_natCast, BitVec.ofNat_toNat, BitVec.setWidth_eq]
@[simp high] theorem xor32 (a : BitVec 32) (n : Int) : binI .xor .u32 (a.toNat : Int) n = some (w32 (a ^^^ BitVec.ofInt 32 n)) := by
 simp only [binI, wrap32, IntKind.bits, ofInt_toNat32]; rfl
@[simp high] theorem and32 (a : BitVec 32) (n : Int) : binI .and .u32 (a.toNat : Int) n = some (w32 (a &&& BitVec.ofInt 32 n)) := by
 simp only [binI, wrap32, IntKind.bits, ofInt_toNat32]; rfl
@[simp high] theorem un32 (a : BitVec 32) : unV .xor (.int .u32 (a.toNat : Int)) = some (w32 (~~~ a)) := by
 simp only [unV, wrap32, IntKind.bits, IntKind.signed, IntKind.max, ofInt_toNat32]
 show some (PV.int .u32 (((BitVec.allOnes 32) ^^^ a).toNat : Int)) = _
 rw [BitVec.allOnes_xor]
theorem shl_eq32 (a : BitVec 32) (k : Nat) : BitVec.ofInt 32 ((a.toNat : Int) * 2 ^ min k 32) = a <<< k := by
 apply BitVec.eq_of_toNat_eq
 have e : ((a.toNat : Int) * 2 ^ min k 32) = ((a.toNat * 2 ^ min k 32 : Nat) : Int) := by simp
 rw [e, BitVec.ofInt_natCast, BitVec.toNat_ofNat, BitVec.toNat_shiftLeft, Nat.shiftLeft_eq]
 by_cases h : k ≤ 32
 ·rw [Nat.min_eq_left h]
 ·rw [Nat.min_eq_right (by omega), Nat.mul_mod_left]
  obtain ⟨j, rfl⟩ : ∃ j, k = 32 + j := ⟨k - 32, by omega⟩
  rw [Nat.pow_add, show a.toNat * (2 ^ 32 * 2 ^ j) = (a.toNat * 2 ^ j) * 2 ^ 32 by simp only [Nat.mul_assoc, Nat.mul_comm, Nat.mul_left_comm], Nat.mul_mod_left]
theorem shr_eqI (a : Nat) (k : Nat) : (a : Int).fdiv (2 ^ k) = ((a >>> k : Nat) : Int) := by
 rw [Nat.shiftRight_eq_div_pow, Int.fdiv_eq_ediv_of_nonneg _ (Int.le_of_lt (Int.pow_pos (by decide)))]
 simp
theorem shr_min {a n : Nat} (h : a < 2 ^ n) (k : Nat) : a >>> min k n = a >>> k := by
 by_cases hk : k ≤ n
 ·rw [Nat.min_eq_left hk]
 ·rw [Nat.min_eq_right (by omega), Nat.shiftRight_eq_div_pow, Nat.shiftRight_eq_div_pow, Nat.div_eq_of_lt h, Nat.div_eq_of_lt (Nat.lt_of_lt_of_le h (Nat.pow_le_pow_right (by decide) (by omega)))]
@[simp high] theorem shl32 (a : BitVec 32) (n : Nat) : shI .shl .u32 (a.toNat : Int) (n : Int) = some (w32 (a <<< n)) := by
 simp only [shI, wrap32, IntKind.bits]
 rw [if_neg (by omega), Int.toNat_natCast, shl_eq32]
@[simp high] theorem shr32 (a : BitVec 32) (n : Nat) : shI .shr .u32 (a.toNat : Int) (n : Int) = some (w32 (a >>> n)) := by
 simp only [shI, IntKind.bits]
 rw [if_neg (by omega), Int.toNat_natCast, shr_eqI, shr_min a.isLt, w32, BitVec.toNat_ushiftRight]
@[simp high] theorem shl32' (a : BitVec 32) (n : Nat) : shI .shl .u32 (a.toNat : Int) (no_index (OfNat.ofNat n : Int)) = some (w32 (a <<< (OfNat.ofNat n : Nat))) := shl32 a n
@[simp high] theorem shr32' (a : BitVec 32) (n : Nat) : shI .shr .u32 (a.toNat : Int) (no_index (OfNat.ofNat n : Int)) = some (w32 (a >>> (OfNat.ofNat n : Nat))) := shr32 a n
@[simp high] theorem ofInt_toNat32' (c : BitVec 32) : BitVec.ofInt 32 (c.toNat : Int) = c := ofInt_toNat32 c
@[simp high] theorem conv8_32 (b : UInt8) : IntKind.u32.wrap (b.toNat : Int) = ((BitVec.setWidth 32 b.toBitVec).toNat : Int) := by
 rw [wrap32, BitVec.ofInt_natCast, BitVec.toNat_ofNat, BitVec.toNat_setWidth]; rfl
theorem toNat_beq (a b : BitVec 32) : ((a.toNat : Int) == (b.toNat : Int)) = (a == b) := by
 by_cases h : a = b
 ·subst h; simp
 ·have : a.toNat ≠ b.toNat := fun e => h (BitVec.eq_of_toNat_eq e)
  have h1 : ((a.toNat : Int) == (b.toNat : Int)) = false := by simp; omega
  rw [h1]; simp [h]
def step1 (c : BitVec 32) : BitVec 32 := if c >>> 31 = 1#32 then (c <<< 1) ^^^ 79764919#32 else c <<< 1
def stepN : Nat → BitVec 32 → BitVec 32
 | 0, c => c
 | n + 1, c => stepN n (step1 c)
def nextS (c : BitVec 32) (b : UInt8) : BitVec 32 := stepN 8 (c ^^^ (BitVec.setWidth 32 b.toBitVec <<< 24))
theorem stepN_succ : ∀ (i : Nat) (c : BitVec 32), stepN (i + 1) c = step1 (stepN i c)
 | 0, _ => rfl
 | i + 1, c => stepN_succ i (step1 c)
theorem eq1 (c : BitVec 32) : ((c.toNat : Int) == 1) = decide (c = 1#32) := by
 have h := toNat_beq c 1#32
 have e : ((1#32).toNat : Int) = 1 := by decide
 rw [e] at h; rw [h]; by_cases hc : c = 1#32 <;> simp [hc]
theorem next_spec (c : BitVec 32) (b : UInt8) : PCall Tryz.prog 172 [w32 c, b8 b] (w32 (nextS c b)) := by
 refine pcall_go Tryz.func172 E172.h ?_
 simp only [U172, shl32', shr32', xor32, conv8_32, ofInt_toNat32, reduceIte, reduceCtorEq, Nat.reduceEqDiff, Nat.reduceAdd, Int.reduceLT, Int.reduceLE, Int.reduceNeg, Int.reduceEq, Nat.reduceLT, Nat.reduceSub, Nat.reduceMul, Nat.reduceBEq, Nat.reduceLeDiff, Int.reduceBEq, Int.reduceBNe, Int.reduceToNat, bA]
 refine loopF (fun i : Nat => ⟨ofL [(0, w32 (stepN i (c ^^^ (BitVec.setWidth 32 b.toBitVec <<< 24)))), (10, .int .i64 i)], []⟩) (fun i => i ≤ 8) (fun i => 8 - i) 0 ?_ (by omega) ?_
 ·simp only [seval, bA]; rfl
 ·intro i hi
  simp only [U172, shl32', shr32', xor32, conv8_32, ofInt_toNat32, eq1, reduceIte, reduceCtorEq, Nat.reduceEqDiff, Nat.reduceAdd, Int.reduceLT, Int.reduceLE, Int.reduceNeg, Int.reduceEq, Nat.reduceLT, Nat.reduceSub, Nat.reduceMul, Nat.reduceBEq, Nat.reduceLeDiff, Int.reduceBEq, Int.reduceBNe, Int.reduceToNat, bA]
  refine ⟨fun h => ⟨fun h1 => ⟨i + 1, ?_, by omega, by omega⟩, fun h1 => ⟨i + 1, ?_, by omega, by omega⟩⟩, fun h => ?_⟩
  ·rw [wrapI (by omega) (by omega), stepN_succ, step1, if_pos (by simpa using h1)]; rfl
  ·rw [wrapI (by omega) (by omega), stepN_succ, step1, if_neg (by simpa using h1)]; rfl
  ·have : i = 8 := by simp at h; omega
   subst this; rfl
def foldS (c : BitVec 32) (s : List UInt8) : BitVec 32 := s.foldl nextS c
def moreS (c : BitVec 32) (s : List UInt8) : BitVec 32 := ~~~ (foldS (~~~ c) s)
def sumS (s : List UInt8) : BitVec 32 := moreS 0#32 s
def low8 (c : BitVec 32) : UInt8 := UInt8.ofNat c.toNat
def tail4 (c : BitVec 32) : List UInt8 := [low8 (c >>> 24), low8 (c >>> 16), low8 (c >>> 8), low8 c]
def sealS (s : List UInt8) : List UInt8 := s ++ tail4 (sumS s)
theorem take_foldS {c : BitVec 32} {s : List UInt8} {i : Nat} (h : i < s.length) : foldS c (s.take (i + 1)) = nextS (foldS c (s.take i)) s[i] := by
 rw [foldS, foldS, List.take_succ_eq_append_getElem h, List.foldl_append]; rfl
theorem zero32 : (0 : Int) = ((0#32).toNat : Int) := by decide
theorem more_spec (c : BitVec 32) (s : List UInt8) (hs : s.length ≤ 1000000) : PCall Tryz.prog 145 [w32 c, .str s] (w32 (moreS c s)) := by
 refine pcall_go Tryz.func145 E145.h ?_
 simp only [U145, un32, reduceIte, reduceCtorEq, Nat.reduceEqDiff, Nat.reduceAdd, Int.reduceLT, Int.reduceLE, Int.reduceNeg, Int.reduceEq, Nat.reduceLT, Nat.reduceSub, Nat.reduceMul, Nat.reduceBEq, Nat.reduceLeDiff, Int.reduceBEq, Int.reduceBNe, Int.reduceToNat, bA]
 refine loopF (fun i : Nat => ⟨ofL [(1, .str s), (5, w32 (foldS (~~~ c) (s.take i))), (10, .int .i64 s.length), (11, .int .i64 i)], []⟩) (fun i => i ≤ s.length) (fun i => s.length - i) 0 ?_ (Nat.zero_le _) ?_
 ·simp only [seval, bA]; rfl
 ·intro i hi
  simp only [U145, un32, reduceIte, reduceCtorEq, Nat.reduceEqDiff, Nat.reduceAdd, Int.reduceLT, Int.reduceLE, Int.reduceNeg, Int.reduceEq, Nat.reduceLT, Nat.reduceSub, Nat.reduceMul, Nat.reduceBEq, Nat.reduceLeDiff, Int.reduceBEq, Int.reduceBNe, Int.reduceToNat, bA]
  refine ⟨fun h => ?_, fun h => ?_⟩
  ·have hlt : i < s.length := by omega
   simp only [U145, idxsV_at hlt, reduceIte, reduceCtorEq, Nat.reduceEqDiff, Nat.reduceAdd, Int.reduceLT, Int.reduceLE, Int.reduceNeg, Int.reduceEq, Nat.reduceLT, Nat.reduceSub, Nat.reduceMul, Nat.reduceBEq, Nat.reduceLeDiff, Int.reduceBEq, Int.reduceBNe, Int.reduceToNat, bA]
   refine callI (next_spec _ _) ?_
   simp only [U145, reduceIte, reduceCtorEq, Nat.reduceEqDiff, Nat.reduceAdd, Int.reduceLT, Int.reduceLE, Int.reduceNeg, Int.reduceEq, Nat.reduceLT, Nat.reduceSub, Nat.reduceMul, Nat.reduceBEq, Nat.reduceLeDiff, Int.reduceBEq, Int.reduceBNe, Int.reduceToNat, bA]
   refine ⟨i + 1, ?_, by omega, by omega⟩
   rw [wrapI (by omega) (by omega), take_foldS hlt]; rfl
  ·have : i = s.length := by simp at h; omega
   subst this; simp only [List.take_length]; rfl
theorem sum_spec (s : List UInt8) (hs : s.length ≤ 1000000) : PCall Tryz.prog 108 [.str s] (w32 (sumS s)) := by
 refine pcall_go Tryz.func108 E108.h ?_
 simp only [U108, zero32, reduceIte, reduceCtorEq, Nat.reduceEqDiff, Nat.reduceAdd, Int.reduceLT, Int.reduceLE, Int.reduceNeg, Int.reduceEq, Nat.reduceLT, Nat.reduceSub, Nat.reduceMul, Nat.reduceBEq, Nat.reduceLeDiff, Int.reduceBEq, Int.reduceBNe, Int.reduceToNat, bA]
 refine callI (more_spec 0#32 s hs) ?_
 simp only [U108, reduceIte, reduceCtorEq, Nat.reduceEqDiff, Nat.reduceAdd, Int.reduceLT, Int.reduceLE, Int.reduceNeg, Int.reduceEq, Nat.reduceLT, Nat.reduceSub, Nat.reduceMul, Nat.reduceBEq, Nat.reduceLeDiff, Int.reduceBEq, Int.reduceBNe, Int.reduceToNat, bA]; rfl
theorem conv32_8 (c : BitVec 32) : IntKind.u8.wrap (c.toNat : Int) = ((low8 c).toNat : Int) := by
 have e : (2 : Int) ^ 8 = 256 := by decide
 simp only [IntKind.wrap, IntKind.bits, IntKind.signed, Bool.false_and, e]
 show (c.toNat : Int) % 256 = _
 rw [low8, UInt8.toNat_ofNat']; omega
theorem seal_spec (s : List UInt8) (hs : s.length ≤ 1000000) : PCall Tryz.prog 65 [.str s] (.str (sealS s)) := by
 refine pcall_go Tryz.func65 E65.h ?_
 simp only [U65, shr32', conv32_8, reduceIte, reduceCtorEq, Nat.reduceEqDiff, Nat.reduceAdd, Int.reduceLT, Int.reduceLE, Int.reduceNeg, Int.reduceEq, Nat.reduceLT, Nat.reduceSub, Nat.reduceMul, Nat.reduceBEq, Nat.reduceLeDiff, Int.reduceBEq, Int.reduceBNe, Int.reduceToNat, bA]
 refine callI (sum_spec s hs) ?_
 simp only [U65, shr32', conv32_8, reduceIte, reduceCtorEq, Nat.reduceEqDiff, Nat.reduceAdd, Int.reduceLT, Int.reduceLE, Int.reduceNeg, Int.reduceEq, Nat.reduceLT, Nat.reduceSub, Nat.reduceMul, Nat.reduceBEq, Nat.reduceLeDiff, Int.reduceBEq, Int.reduceBNe, Int.reduceToNat, bA]
 rw [binS_add (by simp only [List.length_cons, List.length_nil]; omega)]
 simp only [U65, reduceIte, reduceCtorEq, Nat.reduceEqDiff, Nat.reduceAdd, Int.reduceLT, Int.reduceLE, Int.reduceNeg, Int.reduceEq, Nat.reduceLT, Nat.reduceSub, Nat.reduceMul, Nat.reduceBEq, Nat.reduceLeDiff, Int.reduceBEq, Int.reduceBNe, Int.reduceToNat, bA]; rfl
theorem seal_len (s : List UInt8) : (sealS s).length = s.length + 4 := by simp [sealS, tail4]
def openS (s : List UInt8) : List UInt8 × Int :=
 if s.length < 4 then ([], 5) else if sealS (s.take (s.length - 4)) = s then (s.take (s.length - 4), 0) else ([], 6)
theorem open_spec (s : List UInt8) (hs : s.length ≤ 1000000) : PCall Tryz.prog 33 [.str s] (.tup [.str (openS s).1, .int .i64 (openS s).2]) := by
 refine pcall_go Tryz.func33 E33.h ?_
 have hw : IntKind.i64.wrap ((s.length : Int) - 4) = (s.length : Int) - 4 := wrapI (by omega) (by omega)
 simp only [U33, hw, reduceIte, reduceCtorEq, Nat.reduceEqDiff, Nat.reduceAdd, Int.reduceLT, Int.reduceLE, Int.reduceNeg, Int.reduceEq, Nat.reduceLT, Nat.reduceSub, Nat.reduceMul, Nat.reduceBEq, Nat.reduceLeDiff, Int.reduceBEq, Int.reduceBNe, Int.reduceToNat, bA]
 refine ⟨fun h => ?_, fun h => ?_⟩
 ·have : s.length < 4 := by omega
  simp only [U33, openS, if_pos this, reduceIte, reduceCtorEq, Nat.reduceEqDiff, Nat.reduceAdd, Int.reduceLT, Int.reduceLE, Int.reduceNeg, Int.reduceEq, Nat.reduceLT, Nat.reduceSub, Nat.reduceMul, Nat.reduceBEq, Nat.reduceLeDiff, Int.reduceBEq, Int.reduceBNe, Int.reduceToNat, bA]
 ·have h4 : ¬ s.length < 4 := by simp at h; omega
  have hc : (s.length : Int) - 4 = ((s.length - 4 : Nat) : Int) := by omega
  simp only [U33, hc, sstrV_to (show s.length - 4 ≤ s.length by omega), reduceIte, reduceCtorEq, Nat.reduceEqDiff, Nat.reduceAdd, Int.reduceLT, Int.reduceLE, Int.reduceNeg, Int.reduceEq, Nat.reduceLT, Nat.reduceSub, Nat.reduceMul, Nat.reduceBEq, Nat.reduceLeDiff, Int.reduceBEq, Int.reduceBNe, Int.reduceToNat, bA]
  refine callI (seal_spec _ (by simp; omega)) ?_
  simp only [U33, hc, sstrV_to (show s.length - 4 ≤ s.length by omega), reduceIte, reduceCtorEq, Nat.reduceEqDiff, Nat.reduceAdd, Int.reduceLT, Int.reduceLE, Int.reduceNeg, Int.reduceEq, Nat.reduceLT, Nat.reduceSub, Nat.reduceMul, Nat.reduceBEq, Nat.reduceLeDiff, Int.reduceBEq, Int.reduceBNe, Int.reduceToNat, bA]
  refine ⟨fun h => ?_, fun h => ?_⟩
  ·have : ¬ sealS (s.take (s.length - 4)) = s := by simpa using h
   simp only [U33, openS, if_neg h4, if_neg this, reduceIte, reduceCtorEq, Nat.reduceEqDiff, Nat.reduceAdd, Int.reduceLT, Int.reduceLE, Int.reduceNeg, Int.reduceEq, Nat.reduceLT, Nat.reduceSub, Nat.reduceMul, Nat.reduceBEq, Nat.reduceLeDiff, Int.reduceBEq, Int.reduceBNe, Int.reduceToNat, bA]
  ·have : sealS (s.take (s.length - 4)) = s := by simpa using h
   simp only [U33, openS, if_neg h4, if_pos this, reduceIte, reduceCtorEq, Nat.reduceEqDiff, Nat.reduceAdd, Int.reduceLT, Int.reduceLE, Int.reduceNeg, Int.reduceEq, Nat.reduceLT, Nat.reduceSub, Nat.reduceMul, Nat.reduceBEq, Nat.reduceLeDiff, Int.reduceBEq, Int.reduceBNe, Int.reduceToNat, bA]
open Go.RowKit
theorem open_seal (s : List UInt8) : openS (sealS s) = (s, 0) := by
 have h := seal_len s
 have h1 : (sealS s).length - 4 = s.length := by omega
 have h2 : (sealS s).take s.length = s := by simp [sealS]
 rw [openS, if_neg (by omega), h1, h2, if_pos rfl]
open Go.RowKit
open Go.RowKit
structure Pg where
 kd : Int
 sp : Int
 ky : Int
 sq : Int
 bo : List UInt8
deriving DecidableEq
def rowP (p : Pg) : List PV := [.int .i64 p.kd, .int .i64 p.sp, .int .i64 p.ky, .int .i64 p.sq, .str p.bo]
def zeroP : Pg := ⟨0, 0, 0, 0, []⟩
def inS (n m : Int) : Bool := decide (0 ≤ n) && decide (n ≤ m)
def mayB (p : Pg) : Bool := decide (1 ≤ p.kd) && (decide (p.kd ≤ 4) && (inS p.sp 65535 && (inS p.ky 4294967295 && (inS p.sq 281474976710655 && decide (p.bo.length ≤ 100)))))
theorem len100 (l : List UInt8) : decide ((l.length : Int) ≤ 100) = decide (l.length ≤ 100) := by rw [Bool.eq_iff_iff]; simp; omega
theorem mayB_iff {p : Pg} : mayB p = true ↔ 1 ≤ p.kd ∧ p.kd ≤ 4 ∧ 0 ≤ p.sp ∧ p.sp ≤ 65535 ∧ 0 ≤ p.ky ∧ p.ky ≤ 4294967295 ∧ 0 ≤ p.sq ∧ p.sq ≤ 281474976710655 ∧ p.bo.length ≤ 100 := by
 simp only [mayB, inS, Bool.and_eq_true, decide_eq_true_eq]
 constructor
 ·rintro ⟨a, b, ⟨c, d⟩, ⟨e, f⟩, ⟨g, h⟩, i⟩; exact ⟨a, b, c, d, e, f, g, h, i⟩
 ·rintro ⟨a, b, c, d, e, f, g, h, i⟩; exact ⟨a, b, ⟨c, d⟩, ⟨e, f⟩, ⟨g, h⟩, i⟩
def headS (p : Pg) : List UInt8 := leB 1 p.kd.toNat ++ (leB 2 p.sp.toNat ++ (leB 4 p.ky.toNat ++ (leB 6 p.sq.toNat ++ leB 1 p.bo.length)))
def bodyS (p : Pg) : List UInt8 := [83, 99] ++ headS p ++ p.bo
def writeS (p : Pg) : List UInt8 × Int := if mayB p = true then (sealS (bodyS p), 0) else ([], 1)
theorem headS_len (p : Pg) : (headS p).length = 14 := by simp [headS, leB_len]
theorem bodyS_len (p : Pg) : (bodyS p).length = 16 + p.bo.length := by simp [bodyS, headS_len]; omega
def numAt (t : List UInt8) (a w : Nat) : Int := (leN ((t.drop a).take w) : Int)
def pageOf (t : List UInt8) : Pg := ⟨numAt t 2 1, numAt t 3 2, numAt t 5 4, numAt t 9 6, t.drop 16⟩
def readS (s : List UInt8) : Pg × Int :=
 if (openS s).2 ≠ 0 then (zeroP, (openS s).2) else
 if (openS s).1.length < 16 then (zeroP, 3) else
 if mayB (pageOf (openS s).1) = true ∧ bodyS (pageOf (openS s).1) = (openS s).1 then (pageOf (openS s).1, 0) else (zeroP, 3)
theorem leB_of {w : Nat} {x : List UInt8} (h : x.length = w) : leB w (leN x) = x := by rw [← h]; exact leB_leN x
theorem leN_of {w n : Nat} (h : n < 256 ^ w) : leN (leB w n) = n := by rw [leN_leB, Nat.mod_eq_of_lt h]
theorem row_page (p : Pg) (h : mayB p = true) : rowS [p.kd.toNat, p.sp.toNat, p.ky.toNat, p.sq.toNat, p.bo.length] [1, 2, 4, 6, 1] = (headS p, 0) := by
 obtain ⟨a, b, c, d, e, f, g, h, i⟩ := mayB_iff.1 h
 have b1 : badW [1, 2, 4, 6, 1] = false := by decide
 have k1 : p.kd.toNat < 256 ^ (1 : Int).toNat := by show p.kd.toNat < 256; omega
 have k2 : p.sp.toNat < 256 ^ (2 : Int).toNat := by show p.sp.toNat < 65536; omega
 have k3 : p.ky.toNat < 256 ^ (4 : Int).toNat := by show p.ky.toNat < 4294967296; omega
 have k4 : p.sq.toNat < 256 ^ (6 : Int).toNat := by show p.sq.toNat < 281474976710656; omega
 have k5 : p.bo.length < 256 ^ (1 : Int).toNat := by show p.bo.length < 256; omega
 rw [rowS_ok rfl b1, goR_one k1, goR_one k2, goR_one k3, goR_one k4, goR_one k5, goR_nil]
 simp [headS, List.append_assoc]
theorem drop_take_drop (t : List UInt8) (a w : Nat) : t.drop a = (t.drop a).take w ++ t.drop (a + w) := by
 rw [← List.drop_drop, List.take_append_drop]
theorem parts16 (t : List UInt8) : t = t.take 2 ++ ((t.drop 2).take 1 ++ ((t.drop 3).take 2 ++ ((t.drop 5).take 4 ++ ((t.drop 9).take 6 ++ ((t.drop 15).take 1 ++ t.drop 16))))) := by
 rw [← drop_take_drop t 15 1, ← drop_take_drop t 9 6, ← drop_take_drop t 5 4, ← drop_take_drop t 3 2, ← drop_take_drop t 2 1, List.take_append_drop]
theorem body_page (t : List UInt8) (h : 16 ≤ t.length) : bodyS (pageOf t) = [83, 99] ++ ((t.drop 2).take 1 ++ ((t.drop 3).take 2 ++ ((t.drop 5).take 4 ++ ((t.drop 9).take 6 ++ (leB 1 (t.length - 16) ++ t.drop 16))))) := by
 simp only [bodyS, headS, pageOf, numAt, Int.toNat_natCast]
 rw [leB_of (w := 1) (by simp; omega), leB_of (w := 2) (by simp; omega), leB_of (w := 4) (by simp; omega), leB_of (w := 6) (by simp; omega), List.length_drop]
 simp [List.append_assoc]
theorem body_same (t : List UInt8) (h : 16 ≤ t.length) (h2 : t.length - 16 ≤ 100) : bodyS (pageOf t) = t ↔ t.take 2 = [83, 99] ∧ leN ((t.drop 15).take 1) = t.length - 16 := by
 rw [body_page t h]
 have e15 : ((t.drop 15).take 1).length = 1 := by simp; omega
 constructor
 ·intro he
  have h0 := parts16 t
  have h1 : t.take 2 = [83, 99] := by
   rw [← he]; rfl
  refine ⟨h1, ?_⟩
  have h2' : (t.drop 15).take 1 = leB 1 (t.length - 16) := by
   have h3 : (([83, 99] ++ ((t.drop 2).take 1 ++ ((t.drop 3).take 2 ++ ((t.drop 5).take 4 ++ ((t.drop 9).take 6 ++ (leB 1 (t.length - 16) ++ t.drop 16)))))).drop 15).take 1 = (t.drop 15).take 1 := congrArg (fun x : List UInt8 => (x.drop 15).take 1) he
   rw [← h3]
   have a1 : ((t.drop 2).take 1).length = 1 := by simp; omega
   have a2 : ((t.drop 3).take 2).length = 2 := by simp; omega
   have a3 : ((t.drop 5).take 4).length = 4 := by simp; omega
   have a4 : ((t.drop 9).take 6).length = 6 := by simp; omega
   have a5 : (leB 1 (t.length - 16)).length = 1 := leB_len _ _
   generalize (t.drop 2).take 1 = x1 at *
   generalize (t.drop 3).take 2 = x2 at *
   generalize (t.drop 5).take 4 = x3 at *
   generalize (t.drop 9).take 6 = x4 at *
   generalize leB 1 (t.length - 16) = x5 at *
   have b : ([83, 99] ++ (x1 ++ (x2 ++ (x3 ++ (x4 ++ (x5 ++ t.drop 16)))))) = ([83, 99] ++ x1 ++ x2 ++ x3 ++ x4) ++ (x5 ++ t.drop 16) := by simp
   rw [b, List.drop_left' (by simp [a1, a2, a3, a4]), List.take_left' a5]
  rw [h2', leN_of (by show t.length - 16 < 256; omega)]
 ·rintro ⟨h1, h2'⟩
  have h3 : leB 1 (t.length - 16) = (t.drop 15).take 1 := by rw [← h2', leB_of e15]
  rw [h3, ← h1]
  exact (parts16 t).symm
theorem page_body (p : Pg) (h : mayB p = true) : pageOf (bodyS p) = p := by
 obtain ⟨a, b, c, d, e, f, g, h, i⟩ := mayB_iff.1 h
 have l1 : (leB 1 p.kd.toNat).length = 1 := leB_len _ _
 have l2 : (leB 2 p.sp.toNat).length = 2 := leB_len _ _
 have l3 : (leB 4 p.ky.toNat).length = 4 := leB_len _ _
 have l4 : (leB 6 p.sq.toNat).length = 6 := leB_len _ _
 have l5 : (leB 1 p.bo.length).length = 1 := leB_len _ _
 have n1 : leN (leB 1 p.kd.toNat) = p.kd.toNat := leN_of (by show p.kd.toNat < 256; omega)
 have n2 : leN (leB 2 p.sp.toNat) = p.sp.toNat := leN_of (by show p.sp.toNat < 65536; omega)
 have n3 : leN (leB 4 p.ky.toNat) = p.ky.toNat := leN_of (by show p.ky.toNat < 4294967296; omega)
 have n4 : leN (leB 6 p.sq.toNat) = p.sq.toNat := leN_of (by show p.sq.toNat < 281474976710656; omega)
 unfold pageOf bodyS headS numAt
 generalize leB 1 p.kd.toNat = x1 at *
 generalize leB 2 p.sp.toNat = x2 at *
 generalize leB 4 p.ky.toNat = x3 at *
 generalize leB 6 p.sq.toNat = x4 at *
 generalize leB 1 p.bo.length = x5 at *
 have q1 : (([83, 99] ++ (x1 ++ (x2 ++ (x3 ++ (x4 ++ x5)))) ++ p.bo).drop 2).take 1 = x1 := by
  rw [show [83, 99] ++ (x1 ++ (x2 ++ (x3 ++ (x4 ++ x5)))) ++ p.bo = [83, 99] ++ (x1 ++ (x2 ++ (x3 ++ (x4 ++ x5)) ++ p.bo)) by simp, List.drop_left' (by rfl), List.append_assoc, List.take_left' l1]
 have q2 : (([83, 99] ++ (x1 ++ (x2 ++ (x3 ++ (x4 ++ x5)))) ++ p.bo).drop 3).take 2 = x2 := by
  rw [show [83, 99] ++ (x1 ++ (x2 ++ (x3 ++ (x4 ++ x5)))) ++ p.bo = ([83, 99] ++ x1) ++ (x2 ++ (x3 ++ (x4 ++ x5) ++ p.bo)) by simp, List.drop_left' (by simp [l1]), List.take_left' l2]
 have q3 : (([83, 99] ++ (x1 ++ (x2 ++ (x3 ++ (x4 ++ x5)))) ++ p.bo).drop 5).take 4 = x3 := by
  rw [show [83, 99] ++ (x1 ++ (x2 ++ (x3 ++ (x4 ++ x5)))) ++ p.bo = ([83, 99] ++ x1 ++ x2) ++ (x3 ++ (x4 ++ x5 ++ p.bo)) by simp, List.drop_left' (by simp [l1, l2]), List.take_left' l3]
 have q4 : (([83, 99] ++ (x1 ++ (x2 ++ (x3 ++ (x4 ++ x5)))) ++ p.bo).drop 9).take 6 = x4 := by
  rw [show [83, 99] ++ (x1 ++ (x2 ++ (x3 ++ (x4 ++ x5)))) ++ p.bo = ([83, 99] ++ x1 ++ x2 ++ x3) ++ (x4 ++ (x5 ++ p.bo)) by simp, List.drop_left' (by simp [l1, l2, l3]), List.take_left' l4]
 have q5 : ([83, 99] ++ (x1 ++ (x2 ++ (x3 ++ (x4 ++ x5)))) ++ p.bo).drop 16 = p.bo := List.drop_left' (by simp [l1, l2, l3, l4, l5])
 rw [q1, q2, q3, q4, q5, n1, n2, n3, n4]
 cases p
 simp only [] at *
 congr 1 <;> omega
theorem read_write (p : Pg) (h : mayB p = true) : readS (sealS (bodyS p)) = (p, 0) := by
 rw [readS, open_seal]
 simp only [ne_eq, not_true_eq_false, if_false]
 rw [if_neg (by rw [bodyS_len]; omega), page_body p h, if_pos ⟨h, rfl⟩]
theorem write_len (p : Pg) : (writeS p).1.length ≤ 128 := by
 rw [writeS]
 split
 ·rename_i h
  have := (mayB_iff.1 h).2.2.2.2.2.2.2.2
  rw [seal_len, bodyS_len]; omega
 ·simp
end Go.Proofs.YtdgpiobmncohjaaGreatDoor.Aw
namespace Go.Proofs.YtdgpiobmncohjaaGreatDoor.Aw.Wr
open Go.RowKit
structure Blk where
 st : Int
 va : Int
 wo : Int
def rowB (b : Blk) : List PV := [.int .i64 b.st, .int .i64 b.va, .int .i64 b.wo]
theorem rowB_len (b : Blk) : (rowB b).length = 3 := rfl
def bl (l : List Blk) (j : Nat) : Blk := l.getD j ⟨0, 0, 0⟩
theorem bl_at {l : List Blk} {j : Nat} (h : j < l.length) : bl l j = l[j] := by simp [bl, h]
def wornS (b : Blk) : Int := if b.wo < 0 then 0 else b.wo
def cmpS (x y : Int) : Int := if x < y then -1 else if y < x then 1 else 0
def byWornS (a b : Blk) : Int := cmpS (wornS a) (wornS b)
def isS (s : Int) (b : Blk) : Bool := b.st == s
def ltK (a b : Int × Int) : Prop := a.1 < b.1 ∨ (a.1 = b.1 ∧ a.2 < b.2)
instance (a b : Int × Int) : Decidable (ltK a b) := by unfold ltK; infer_instance
def kWorn (b : Blk) : Int × Int := (wornS b, 0)
theorem cmp_neg {x y : Int} : cmpS x y < 0 ↔ x < y := by
 simp only [cmpS]
 split
 ·omega
 ·split <;> omega
theorem byWorn_lt {a b : Blk} : byWornS a b < 0 ↔ ltK (kWorn a) (kWorn b) := by rw [byWornS, cmp_neg]; simp [ltK, kWorn]
def First (K : Blk → Int × Int) (c : Blk → Bool) (l : List Blk) (a b : Nat) (r : Int) : Prop :=
 (r = -1 ∧ ∀ j, a ≤ j → j < b → c (bl l j) = false) ∨
 ∃ k : Nat, r = k ∧ a ≤ k ∧ k < b ∧ c (bl l k) = true ∧ ∀ j, a ≤ j → j < b → c (bl l j) = true → (j < k → ltK (K (bl l k)) (K (bl l j))) ∧ ¬ ltK (K (bl l j)) (K (bl l k))
theorem First.uniq {K c l a b r r'} (h : First K c l a b r) (h' : First K c l a b r') : r = r' := by
 rcases h with ⟨rfl, h⟩ | ⟨k, rfl, h1, h2, h3, h4⟩
 ·rcases h' with ⟨rfl, _⟩ | ⟨k', rfl, g1, g2, g3, g4⟩
  ·rfl
  ·rw [h k' g1 g2] at g3; cases g3
 ·rcases h' with ⟨rfl, g⟩ | ⟨k', rfl, g1, g2, g3, g4⟩
  ·rw [g k h1 h2] at h3; cases h3
  ·rcases Nat.lt_trichotomy k k' with e | e | e
   ·exact absurd ((g4 k h1 h2 h3).1 e) (h4 k' g1 g2 g3).2
   ·rw [e]
   ·exact absurd ((h4 k' g1 g2 g3).1 e) (g4 k h1 h2 h3).2
theorem First.none {K c l} (a : Nat) : First K c l a a (-1) := .inl ⟨rfl, fun j h1 h2 => by omega⟩
theorem First.lt {K c l a b r} (h : First K c l a b r) : -1 ≤ r ∧ r < b := by
 rcases h with ⟨rfl, _⟩ | ⟨k, rfl, h1, h2, _⟩ <;> omega
theorem First.at {K c l a b r} (h : First K c l a b r) (h0 : 0 ≤ r) : c (bl l r.toNat) = true := by
 rcases h with ⟨rfl, _⟩ | ⟨k, rfl, h1, h2, h3, _⟩
 ·omega
 ·simpa using h3
theorem First.up {K c l a b r} (hab : a ≤ b) (h : First K c l a b r) : First K c l a (b + 1) (if c (bl l b) = true ∧ (r < 0 ∨ ltK (K (bl l b)) (K (bl l r.toNat))) then (b : Int) else r) := by
 rcases h with ⟨rfl, h⟩ | ⟨k, rfl, h1, h2, h3, h4⟩
 ·by_cases hc : c (bl l b) = true
  ·rw [if_pos ⟨hc, .inl (by omega)⟩]
   refine .inr ⟨b, rfl, hab, by omega, hc, fun j g1 g2 g3 => ?_⟩
   by_cases e : j = b
   ·subst e; exact ⟨fun h => by omega, by simp [ltK]⟩
   ·rw [h j g1 (by omega)] at g3; cases g3
  ·rw [if_neg (fun h => hc h.1)]
   refine .inl ⟨rfl, fun j g1 g2 => ?_⟩
   by_cases e : j = b
   ·subst e; simpa using hc
   ·exact h j g1 (by omega)
 ·simp only [Int.toNat_natCast]
  by_cases hc : c (bl l b) = true ∧ ltK (K (bl l b)) (K (bl l k))
  ·rw [if_pos ⟨hc.1, .inr hc.2⟩]
   refine .inr ⟨b, rfl, hab, by omega, hc.1, fun j g1 g2 g3 => ?_⟩
   by_cases e : j = b
   ·subst e; exact ⟨fun h => by omega, by simp [ltK]⟩
   ·have := (h4 j g1 (by omega) g3).2
    have hl := hc.2
    refine ⟨fun _ => ?_, ?_⟩ <;> simp only [ltK] at * <;> omega
  ·rw [if_neg (fun h => hc ⟨h.1, h.2.elim (fun h => by omega) id⟩)]
   refine .inr ⟨k, rfl, h1, by omega, h3, fun j g1 g2 g3 => ?_⟩
   by_cases e : j = b
   ·subst e; exact ⟨fun h => by omega, fun h => hc ⟨g3, h⟩⟩
   ·exact h4 j g1 (by omega) g3
open Go.RowKit
abbrev pB (b : Blk) : PV := .agg (rowB b)
theorem isNaN_spec (x : Int) : PCall Tryz.prog 87 [.int .i64 x] (.bool false) := by
 refine pcall_go Tryz.func87 E87.h ?_
 have d : (x != x) = false := by simp
 simp only [U87, d, seval, bA]
theorem cmp_spec (x y : Int) : PCall Tryz.prog 50 [.int .i64 x, .int .i64 y] (.int .i64 (cmpS x y)) := by
 refine pcall_go Tryz.func50 E50.h ?_
 simp only [U50, seval, bA]
 refine callI (isNaN_spec x) ?_
 simp only [U50, seval, bA]
 refine callI (isNaN_spec y) ?_
 by_cases h1 : x < y
 ·have d1 : decide (x < y) = true := by simpa using h1
  simp only [U50, d1, seval, bA]
  simp [cmpS, h1]
 ·have d1 : decide (x < y) = false := by simpa using h1
  by_cases h2 : y < x
  ·have d2 : decide (y < x) = true := by simpa using h2
   simp only [U50, d1, d2, seval, bA]
   simp [cmpS, h1, h2]
  ·have d2 : decide (y < x) = false := by simpa using h2
   simp only [U50, d1, d2, seval, bA]
   simp [cmpS, h1, h2]
theorem worn_spec (b : Blk) : PCall Tryz.prog 190 [pB b] (.int .i64 (wornS b)) := by
 refine pcall_go Tryz.func190 E190.h ?_
 simp only [U190, rowB, seval, bA]
 have : max b.wo 0 = wornS b := by simp only [wornS, Int.max_def]; split <;> split <;> omega
 rw [this]
theorem byWorn_spec (a b : Blk) : PCall Tryz.prog 175 [pB a, pB b] (.int .i64 (byWornS a b)) := by
 refine pcall_go Tryz.func175 E175.h ?_
 simp only [U175, rowB, seval, bA]
 refine callI (worn_spec a) ?_
 simp only [U175, rowB, seval, bA]
 refine callI (worn_spec b) ?_
 simp only [U175, rowB, seval, bA]
 refine callI (cmp_spec _ _) ?_
 simp only [U175, rowB, seval, bA]
 all_goals rfl
theorem is1_spec (s : Int) (b : Blk) : PCall Tryz.prog 189 [pB b, .fptr [.int .i64 s]] (.bool (isS s b)) := by
 refine pcall_go Tryz.func189 E189.h ?_
 simp only [U189, rowB, seval, bA]
 all_goals rfl
theorem is_spec (s : Int) : PCall Tryz.prog 174 [.int .i64 s] (.fn (.func 189) [] [.fptr [.int .i64 s]]) := by
 refine pcall_go Tryz.func174 E174.h ?_
 simp only [U174, seval, bA]
theorem least_spec (K : Blk → Int × Int) (c : Blk → Bool) (o : Blk → Blk → Int) (l : List Blk) (g1 g2 : Nat) (cap1 : List PV) (hl : l.length ≤ 1000000) (hc1 : ownL cap1 = false) (hu1 : undL 0 cap1 = true)
  (ho : ∀ a b, o a b < 0 ↔ ltK (K a) (K b)) (hp1 : ∀ b, PCall Tryz.prog g1 (pB b :: cap1) (.bool (c b))) (hp2 : ∀ a b, PCall Tryz.prog g2 [pB a, pB b] (.int .i64 (o a b))) (r : Int) (hr : First K c l 0 l.length r) :
  PCall Tryz.prog 173 [.slc (l.map rowB), .fn (.func g1) [] cap1, .fn (.func g2) [] []] (.int .i64 r) := by
 refine pcall_go Tryz.func173 E173.h ?_
 simp only [U173, seval, bA]
 refine loopF (fun x : Nat × Int => ⟨ofL [(0, .slc (l.map rowB)), (1, .fn (.func g1) [] cap1), (2, .fn (.func g2) [] []), (7, .int .i64 x.2), (10, .slc (l.map rowB)), (11, .int .i64 l.length), (12, .int .i64 x.1)], []⟩)
  (fun x => x.1 ≤ l.length ∧ First K c l 0 x.1 x.2) (fun x => l.length - x.1) (0, -1) ?_ ⟨Nat.zero_le _, First.none 0⟩ ?_
 ·simp only [U173, hu1, seval, bA]
  all_goals rfl
 ·intro ⟨i, best⟩ ⟨hi, hf⟩
  simp only [] at hi hf ⊢
  by_cases h : i < l.length
  ·have d : decide ((i : Int) < (l.length : Int)) = true := by simpa using h
   have e1 : IntKind.i64.wrap ((i : Int) + 1) = ((i + 1 : Nat) : Int) := by rw [wrapI (by omega) (by omega)]; omega
   have hup := hf.up (Nat.zero_le i)
   have hbl := bl_at h
   simp only [U173, d, islV_map (g := rowB) h (rowB_len _), rowB, hc1, seval, bA]
   refine callI (hp1 l[i]) ?_
   by_cases hc : c l[i] = true
   ·by_cases hb : best < 0
    ·have d2 : decide (best < 0) = true := by simpa using hb
     simp only [U173, d, islV_map (g := rowB) h (rowB_len _), rowB, hc, d2, e1, hu1, seval, bA]
     refine ⟨(i + 1, (i : Int)), rfl, ⟨h, ?_⟩, by show l.length - (i + 1) < l.length - i; omega⟩
     rwa [if_pos ⟨by rw [hbl]; exact hc, .inl hb⟩] at hup
    ·have d2 : decide (best < 0) = false := by simpa using hb
     have hlt := hf.lt
     obtain ⟨k, rfl⟩ : ∃ k : Nat, best = k := ⟨best.toNat, by omega⟩
     have hk : k < l.length := by omega
     have hbk := bl_at hk
     simp only [U173, d, islV_map (g := rowB) h (rowB_len _), islV_map (g := rowB) hk (rowB_len _), rowB, hc, d2, e1, seval, bA]
     refine callI (hp2 l[i] l[k]) ?_
     by_cases hlt2 : o l[i] l[k] < 0
     ·have d3 : decide (o l[i] l[k] < 0) = true := by simpa using hlt2
      simp only [U173, d3, e1, hu1, seval, bA]
      refine ⟨(i + 1, (i : Int)), rfl, ⟨h, ?_⟩, by show l.length - (i + 1) < l.length - i; omega⟩
      rwa [if_pos ⟨by rw [hbl]; exact hc, .inr (by rw [Int.toNat_natCast, hbl, hbk]; exact (ho _ _).1 hlt2)⟩] at hup
     ·have d3 : decide (o l[i] l[k] < 0) = false := by simpa using hlt2
      simp only [U173, d3, e1, hu1, seval, bA]
      refine ⟨(i + 1, (k : Int)), rfl, ⟨h, ?_⟩, by show l.length - (i + 1) < l.length - i; omega⟩
      rwa [if_neg (fun hh => hh.2.elim (fun h => by omega) fun h => hlt2 ((ho _ _).2 (by rwa [Int.toNat_natCast, hbl, hbk] at h)))] at hup
   ·simp only [Bool.not_eq_true] at hc
    simp only [U173, d, hc, e1, hu1, seval, bA]
    refine ⟨(i + 1, best), rfl, ⟨h, ?_⟩, by show l.length - (i + 1) < l.length - i; omega⟩
    rwa [if_neg (fun hh => by rw [hbl, hc] at hh; exact absurd hh.1 (by simp))] at hup
  ·have d : decide ((i : Int) < (l.length : Int)) = false := by simpa using h
   have : i = l.length := by omega
   subst this
   simp only [U173, d, seval, bA]
   rw [hf.uniq hr]
open Go.RowKit
def firstN (K : Blk → Int × Int) (c : Blk → Bool) (l : List Blk) : Nat → Int
 | 0 => -1
 | b + 1 => if c (bl l b) = true ∧ (firstN K c l b < 0 ∨ ltK (K (bl l b)) (K (bl l (firstN K c l b).toNat))) then (b : Int) else firstN K c l b
theorem firstN_first (K c l) : ∀ b, First K c l 0 b (firstN K c l b)
 | 0 => First.none 0
 | b + 1 => (firstN_first K c l b).up (Nat.zero_le b)
def pickS (l : List Blk) : Int := firstN kWorn (isS 0) l l.length
def countN (l : List Blk) (s : Int) : Nat → Nat
 | 0 => 0
 | b + 1 => if (bl l b).st = s then countN l s b + 1 else countN l s b
theorem countN_le (l s) : ∀ b, countN l s b ≤ b
 | 0 => Nat.le_refl _
 | b + 1 => by have := countN_le l s b; simp only [countN]; split <;> omega
theorem pick_spec (l : List Blk) (hl : l.length ≤ 1000000) : PCall Tryz.prog 150 [.slc (l.map rowB)] (.int .i64 (pickS l)) := by
 refine pcall_go Tryz.func150 E150.h ?_
 simp only [U150, seval, bA]
 refine callI (is_spec 0) ?_
 simp only [U150, seval, bA]
 refine callI (least_spec kWorn (isS 0) byWornS l _ _ _ hl rfl rfl (fun _ _ => byWorn_lt) (is1_spec 0) byWorn_spec _ (firstN_first _ _ _ _)) ?_
 simp only [U150, seval, bA]
 all_goals rfl
theorem count_spec (l : List Blk) (s : Int) (hl : l.length ≤ 1000000) : PCall Tryz.prog 102 [.slc (l.map rowB), .int .i64 s] (.int .i64 (countN l s l.length)) := by
 refine pcall_go Tryz.func102 E102.h ?_
 simp only [U102, seval, bA]
 refine loopF (fun i : Nat => ⟨ofL [(1, .int .i64 s), (5, .int .i64 (countN l s i)), (8, .slc (l.map rowB)), (9, .int .i64 l.length), (10, .int .i64 i)], []⟩) (fun i => i ≤ l.length) (fun i => l.length - i) 0 ?_ (Nat.zero_le _) ?_
 ·simp only [U102, seval, bA]
  all_goals rfl
 ·intro i hi
  by_cases h : i < l.length
  ·have d : decide ((i : Int) < (l.length : Int)) = true := by simpa using h
   have e1 : IntKind.i64.wrap ((i : Int) + 1) = ((i + 1 : Nat) : Int) := by rw [wrapI (by omega) (by omega)]; omega
   have hc := countN_le l s i
   have e2 : IntKind.i64.wrap ((countN l s i : Int) + 1) = ((countN l s i + 1 : Nat) : Int) := by rw [wrapI (by omega) (by omega)]; omega
   have hb := bl_at h
   by_cases hs : l[i].st = s
   ·have d2 : (l[i].st == s) = true := by simpa using hs
    simp only [U102, d, islV_map (g := rowB) h (rowB_len _), rowB, d2, e1, e2, seval, bA]
    exact ⟨i + 1, by simp only [countN, hb, hs, if_true], h, by omega⟩
   ·have d2 : (l[i].st == s) = false := by simpa using hs
    simp only [U102, d, islV_map (g := rowB) h (rowB_len _), rowB, d2, e1, seval, bA]
    exact ⟨i + 1, by simp only [countN, hb, hs, if_false], h, by omega⟩
  ·have d : decide ((i : Int) < (l.length : Int)) = false := by simpa using h
   have : i = l.length := by omega
   subst this
   simp only [U102, d, seval, bA]
end Go.Proofs.YtdgpiobmncohjaaGreatDoor.Aw.Wr
namespace Go.Proofs.YtdgpiobmncohjaaGreatDoor.Aw
open Go.RowKit
def txB (bl : List Bk) (i : Nat) : Option (List UInt8) := (bl[i / 16]?).bind fun k => k.pg[i % 16]?
def pgB (bl : List Bk) : Pgs := fun i => (txB bl i).bind fun t => if (readS t).2 = 0 then some ((readS t).1.kd, (readS t).1.bo) else none
def TxOk (bl : List Bk) : Prop := ∀ k ∈ bl, ∀ t ∈ k.pg, t.length ≤ 128
theorem txB_at {bl : List Bk} {b j : Nat} {k : Bk} (hb : bl[b]? = some k) (hj : j < 16) : txB bl (16 * b + j) = k.pg[j]? := by
 have e1 : (16 * b + j) / 16 = b := by omega
 have e2 : (16 * b + j) % 16 = j := by omega
 rw [txB, e1, e2, hb]; rfl
theorem txB_set {bl : List Bk} {b : Nat} {k k' : Bk} {t : List UInt8} (hb : bl[b]? = some k) (hk : k'.pg = k.pg ++ [t]) {i : Nat} {s : List UInt8} (h : txB bl i = some s) : txB (bl.set b k') i = some s := by
 rw [txB] at h ⊢
 by_cases e : b = i / 16
 ·subst e
  rw [hb] at h
  rw [List.getElem?_set_self (List.getElem?_eq_some_iff.1 hb).1]
  simp only [Option.bind_some] at h ⊢
  rw [hk, List.getElem?_append_left (List.getElem?_eq_some_iff.1 h).1]; exact h
 ·rw [List.getElem?_set_ne e]; exact h
theorem pgB_set {bl : List Bk} {b : Nat} {k k' : Bk} {t : List UInt8} (hb : bl[b]? = some k) (hk : k'.pg = k.pg ++ [t]) : PgLe (pgB bl) (pgB (bl.set b k')) := by
 intro i x h
 rw [pgB] at h ⊢
 cases ht : txB bl i with
 | none => rw [ht] at h; cases h
 | some s => rw [txB_set hb hk ht]; rw [ht] at h; exact h
theorem txOk_set {bl : List Bk} {b : Nat} {k k' : Bk} {t : List UInt8} (h : TxOk bl) (hb : bl[b]? = some k) (hk : k'.pg = k.pg ++ [t]) (ht : t.length ≤ 128) : TxOk (bl.set b k') := by
 intro x hx s hs
 rcases List.mem_or_eq_of_mem_set hx with hx | rfl
 ·exact h x hx s hs
 ·rw [hk, List.mem_append, List.mem_singleton] at hs
  rcases hs with hs | rfl
  ·exact h k (List.mem_of_getElem? hb) s hs
  ·exact ht
theorem pigeon (p : Nat → Prop) [DecidablePred p] : ∀ (n : Nat) (L : List Nat), (∀ j, j < n → p j → j ∈ L) → (List.range n).countP (fun j => decide (p j)) ≤ L.length
 | 0, _, _ => by simp
 | n + 1, L, h => by
  rw [List.range_succ, List.countP_append, List.countP_singleton]
  by_cases hp : p n
  ·have hm := h n (by omega) hp
   have ih := pigeon p n (L.erase n) fun j hj hpj => (List.mem_erase_of_ne (by omega)).2 (h j (by omega) hpj)
   rw [List.length_erase_of_mem hm] at ih
   have := List.length_pos_of_mem hm
   simp only [hp, decide_true, if_true]; omega
  ·have ih := pigeon p n L fun j hj hpj => h j (by omega) hpj
   simp only [hp, decide_false, Bool.false_eq_true, if_false]; omega
theorem pigeon_all {n : Nat} {L : List Nat} (h : ∀ j, j < n → j ∈ L) : n ≤ L.length := by
 have := pigeon (fun _ => True) n L fun j hj _ => h j hj
 simpa using this
def used (P : List Mis) (ops : Int) : Nat := P.countP fun m => decide (m.at_ ≤ ops)
theorem used_le (P : List Mis) (ops : Int) : used P ops ≤ P.length := List.countP_le_length
theorem used_up (P : List Mis) (ops : Int) : used P ops ≤ used P (ops + 1) := List.countP_mono_left fun m _ h => by simp only [decide_eq_true_eq] at h ⊢; omega
theorem used_hit : ∀ {P : List Mis} {ops : Int}, (∃ m ∈ P, m.at_ = ops + 1) → used P ops + 1 ≤ used P (ops + 1)
 | [], _, ⟨m, h, _⟩ => by cases h
 | x :: P, ops, ⟨m, h, e⟩ => by
  simp only [used, List.countP_cons]
  rcases List.mem_cons.1 h with rfl | h
  ·have h1 := used_up P ops
   simp only [used] at h1
   rw [if_neg (by simp; omega), if_pos (by simp; omega)]; omega
  ·have ih := used_hit ⟨m, h, e⟩
   simp only [used] at ih
   by_cases hx : x.at_ ≤ ops
   ·rw [if_pos (by simpa using hx), if_pos (by simp; omega)]; omega
   ·rw [if_neg (by simpa using hx)]; omega
theorem cM_or (P : List Mis) (k : Int) : (cM P k ∈ P ∧ (cM P k).at_ = k) ∨ cM P k = zeroM := by
 unfold cM
 cases h : P.find? fun x => x.at_ == k with
 | none => exact .inr rfl
 | some m => exact .inl ⟨List.mem_of_find?_eq_some h, by have := List.find?_some h; simpa using this⟩
def StOk (k : Bk) (b : Nat) (x opn : Int) (full bads : List Nat) : Prop :=
 k.wn = 0 ∧ k.pg.length ≤ 16 ∧ ((k.bad = true ∧ x = 3 ∧ b ∈ bads) ∨ (k.bad = false ∧ x = 0 ∧ k.pg = []) ∨ (k.bad = false ∧ x = 1 ∧ opn = b) ∨ (k.bad = false ∧ x = 2 ∧ b ∈ full))
structure DOk (P : List Mis) (bl : List Bk) (stt : List Int) (opn ops : Int) (cnt : Nat) (full bads : List Nat) : Prop where
 lb : bl.length = 16
 ls : stt.length = 16
 tx : TxOk bl
 st : ∀ (b : Nat) (k : Bk) (x : Int), bl[b]? = some k → stt[b]? = some x → StOk k b x opn full bads
 op : (opn = -1 ∧ 16 * full.length ≤ cnt) ∨ ∃ (b : Nat) (k : Bk), opn = (b : Int) ∧ bl[b]? = some k ∧ k.bad = false ∧ stt[b]? = some 1 ∧ 16 * full.length + k.pg.length ≤ cnt
 nb : bads.length ≤ used P ops
 ct : ops = (cnt : Int) + bads.length
theorem DOk.fr {P bl stt opn ops cnt full bads} (h : DOk P bl stt opn ops cnt full bads) (hc : cnt < 200) (hb : bads.length ≤ 2) (ho : opn = -1) : ∃ b : Nat, stt[b]? = some 0 := by
 apply Classical.byContradiction
 intro hn
 have hp : ∀ j, j < 16 → j ∈ full ++ bads := by
  intro j hj
  have h1 : j < bl.length := by rw [h.lb]; exact hj
  have h2 : j < stt.length := by rw [h.ls]; exact hj
  obtain ⟨_, _, h3⟩ := h.st j _ _ (List.getElem?_eq_getElem h1) (List.getElem?_eq_getElem h2)
  rcases h3 with ⟨_, _, h3⟩ | ⟨_, h3, _⟩ | ⟨_, _, h3⟩ | ⟨_, _, h3⟩
  ·exact List.mem_append.2 (.inr h3)
  ·exact absurd ⟨j, by rw [List.getElem?_eq_getElem h2, h3]⟩ hn
  ·omega
  ·exact List.mem_append.2 (.inl h3)
 have := pigeon_all hp
 rw [List.length_append] at this
 rcases h.op with ⟨_, h4⟩ | ⟨b, k, h4, _⟩ <;> omega
section
variable {P : List Mis} {bl : List Bk} {stt : List Int} {opn ops : Int} {cnt : Nat} {full bads : List Nat}
theorem StOk.mono {k : Bk} {b : Nat} {x opn opn' : Int} {full full' bads bads' : List Nat} (h : StOk k b x opn full bads) (ho : x = 1 → opn = b → opn' = b) (hf : ∀ j ∈ full, j ∈ full') (hb : ∀ j ∈ bads, j ∈ bads') : StOk k b x opn' full' bads' := by
 obtain ⟨h1, h2, h3⟩ := h
 refine ⟨h1, h2, ?_⟩
 rcases h3 with ⟨a, b, c⟩ | h3 | ⟨a, b, c⟩ | ⟨a, b, c⟩
 ·exact .inl ⟨a, b, hb _ c⟩
 ·exact .inr (.inl h3)
 ·exact .inr (.inr (.inl ⟨a, b, ho b c⟩))
 ·exact .inr (.inr (.inr ⟨a, b, hf _ c⟩))
theorem get_set {α : Type} {l : List α} {b c : Nat} {x y : α} (h : (l.set b x)[c]? = some y) : (c = b ∧ y = x) ∨ (c ≠ b ∧ l[c]? = some y) := by
 by_cases e : c = b
 ·subst e
  have hl := (List.getElem?_eq_some_iff.1 h).1
  rw [List.length_set] at hl
  rw [List.getElem?_set_self hl] at h
  exact .inl ⟨rfl, (Option.some.inj h).symm⟩
 ·rw [List.getElem?_set_ne (fun h => e h.symm)] at h
  exact .inr ⟨e, h⟩
theorem DOk.sealed (h : DOk P bl stt opn ops cnt full bads) {b : Nat} {k : Bk} (ho : opn = (b : Int)) (hb : bl[b]? = some k) (h16 : 16 ≤ k.pg.length) : DOk P bl (stt.set b 2) (-1) ops cnt (b :: full) bads := by
 rcases h.op with ⟨h1, _⟩ | ⟨b', k', h1, h2, h3, h4, h5⟩
 ·omega
 have e : b' = b := by omega
 subst e
 rw [hb] at h2; cases h2
 refine { h with ls := by rw [List.length_set]; exact h.ls, st := fun c k2 x hc hx => ?_, op := .inl ⟨rfl, by rw [List.length_cons]; omega⟩ }
 rcases get_set hx with ⟨rfl, rfl⟩ | ⟨hne, hx⟩
 ·rw [hb] at hc; cases hc
  obtain ⟨s1, s2, _⟩ := h.st _ _ _ hb h4
  exact ⟨s1, s2, .inr (.inr (.inr ⟨h3, rfl, List.mem_cons_self⟩))⟩
 ·exact (h.st c k2 x hc hx).mono (fun _ hh => by omega) (fun j hj => List.mem_cons_of_mem _ hj) (fun j hj => hj)
theorem DOk.opened (h : DOk P bl stt opn ops cnt full bads) {b : Nat} (ho : opn = -1) (hb : stt[b]? = some 0) : ∃ k, bl[b]? = some k ∧ k.pg = [] ∧ DOk P bl (stt.set b 1) (b : Int) ops cnt full bads := by
 have hlt : b < bl.length := by have := (List.getElem?_eq_some_iff.1 hb).1; rw [h.lb, ← h.ls]; exact this
 have hk := List.getElem?_eq_getElem hlt
 obtain ⟨s1, s2, s3⟩ := h.st _ _ _ hk hb
 rcases s3 with ⟨_, s3, _⟩ | ⟨s3, _, s4⟩ | ⟨_, s3, _⟩ | ⟨_, s3, _⟩
 ·omega
 ·refine ⟨_, hk, s4, { h with ls := by rw [List.length_set]; exact h.ls, st := fun c k2 x hc hx => ?_, op := .inr ⟨b, _, rfl, hk, s3, List.getElem?_set_self (List.getElem?_eq_some_iff.1 hb).1, ?_⟩ }⟩
  ·rcases get_set hx with ⟨rfl, rfl⟩ | ⟨hne, hx⟩
   ·rw [hk] at hc; cases hc
    exact ⟨s1, s2, .inr (.inr (.inl ⟨s3, rfl, rfl⟩))⟩
   ·exact (h.st c k2 x hc hx).mono (fun _ hh => by omega) (fun j hj => hj) (fun j hj => hj)
  ·rcases h.op with ⟨_, h5⟩ | ⟨b', k', h1, _⟩
   ·rw [s4]; simpa using h5
   ·omega
 ·omega
 ·omega
theorem DOk.put (h : DOk P bl stt opn ops cnt full bads) {b : Nat} {k : Bk} {t : List UInt8} (ho : opn = (b : Int)) (hb : bl[b]? = some k) (h16 : k.pg.length < 16) (ht : t.length ≤ 128) : DOk P (bl.set b ⟨k.pg ++ [t], k.wn, false⟩) stt opn (ops + 1) (cnt + 1) full bads := by
 rcases h.op with ⟨h1, _⟩ | ⟨b', k', h1, h2, h3, h4, h5⟩
 ·omega
 have e : b' = b := by omega
 subst e
 rw [hb] at h2; cases h2
 refine ⟨by rw [List.length_set]; exact h.lb, h.ls, txOk_set h.tx hb rfl ht, fun c k2 x hc hx => ?_, .inr ⟨b', _, h1, List.getElem?_set_self (List.getElem?_eq_some_iff.1 hb).1, rfl, h4, by simp only [List.length_append, List.length_cons, List.length_nil]; omega⟩, Nat.le_trans h.nb (used_up P ops), by have := h.ct; omega⟩
 rcases get_set hc with ⟨rfl, rfl⟩ | ⟨hne, hc⟩
 ·rw [h4] at hx; cases hx
  obtain ⟨s1, s2, _⟩ := h.st _ _ _ hb h4
  exact ⟨s1, by simp only [List.length_append, List.length_cons, List.length_nil]; omega, .inr (.inr (.inl ⟨rfl, rfl, h1⟩))⟩
 ·exact h.st c k2 x hc hx
theorem DOk.gone (h : DOk P bl stt opn ops cnt full bads) {b : Nat} {k : Bk} {t : List UInt8} (ho : opn = (b : Int)) (hb : bl[b]? = some k) (h16 : k.pg.length < 16) (ht : t.length ≤ 128) (hm : ∃ m ∈ P, m.at_ = ops + 1) : DOk P (bl.set b ⟨k.pg ++ [t], k.wn, true⟩) (stt.set b 3) (-1) (ops + 1) cnt full (b :: bads) := by
 rcases h.op with ⟨h1, _⟩ | ⟨b', k', h1, h2, h3, h4, h5⟩
 ·omega
 have e : b' = b := by omega
 subst e
 rw [hb] at h2; cases h2
 refine ⟨by rw [List.length_set]; exact h.lb, by rw [List.length_set]; exact h.ls, txOk_set h.tx hb rfl ht, fun c k2 x hc hx => ?_, .inl ⟨rfl, by omega⟩, ?_, by have := h.ct; rw [List.length_cons]; omega⟩
 ·rcases get_set hc with ⟨rfl, rfl⟩ | ⟨hne, hc⟩
  ·obtain ⟨s1, s2, _⟩ := h.st _ _ _ hb h4
   rcases get_set hx with ⟨_, rfl⟩ | ⟨hne, _⟩
   ·exact ⟨s1, by simp only [List.length_append, List.length_cons, List.length_nil]; omega, .inl ⟨rfl, rfl, List.mem_cons_self⟩⟩
   ·exact absurd rfl hne
  ·rcases get_set hx with ⟨hh, _⟩ | ⟨_, hx⟩
   ·exact absurd hh hne
   ·exact (h.st c k2 x hc hx).mono (fun _ hh => by omega) (fun j hj => hj) (fun j hj => List.mem_cons_of_mem _ hj)
 ·have := used_hit hm
  have := h.nb
  rw [List.length_cons]; omega
end
def tabS (stt : List Int) : List Wr.Blk := stt.map fun x => ⟨x, 0, 0⟩
theorem tab_bl {stt : List Int} {j : Nat} {x : Int} (h : stt[j]? = some x) : Wr.bl (tabS stt) j = ⟨x, 0, 0⟩ := by
 have hj := (List.getElem?_eq_some_iff.1 h).1
 rw [Wr.bl_at (by simpa [tabS] using hj)]
 simp [tabS, (List.getElem?_eq_some_iff.1 h).2]
theorem pick_fr {stt : List Int} (h : ∃ b : Nat, stt[b]? = some 0) : ∃ b : Nat, Wr.pickS (tabS stt) = (b : Int) ∧ stt[b]? = some 0 := by
 obtain ⟨b0, h0⟩ := h
 have hb0 := (List.getElem?_eq_some_iff.1 h0).1
 have hl : (tabS stt).length = stt.length := by simp [tabS]
 have hf := Wr.firstN_first Wr.kWorn (Wr.isS 0) (tabS stt) (tabS stt).length
 rcases hf with ⟨_, hn⟩ | ⟨k, hk, _, hlt, hc, _⟩
 ·have := hn b0 (Nat.zero_le _) (by omega)
  rw [tab_bl h0] at this
  simp [Wr.isS] at this
 ·refine ⟨k, hk, ?_⟩
  have hk2 : k < stt.length := by omega
  have h1 := List.getElem?_eq_getElem hk2
  rw [tab_bl h1] at hc
  simp only [Wr.isS, beq_iff_eq] at hc
  rw [h1, hc]
theorem count_le {stt : List Int} {s : Int} : ∀ (n : Nat) (L : List Nat), n ≤ stt.length → (∀ j, j < n → stt[j]? = some s → j ∈ L) → Wr.countN (tabS stt) s n ≤ L.length
 | 0, L, _, _ => by simp [Wr.countN]
 | n + 1, L, hn, h => by
  have h1 := List.getElem?_eq_getElem (show n < stt.length by omega)
  rw [Wr.countN, tab_bl h1]
  split
  ·rename_i hs
   have hs : stt[n] = s := by simpa using hs
   have hm := h n (by omega) (by rw [h1, hs])
   have ih := count_le n (L.erase n) (by omega) fun j hj hpj => (List.mem_erase_of_ne (by omega)).2 (h j (by omega) hpj)
   rw [List.length_erase_of_mem hm] at ih
   have := List.length_pos_of_mem hm
   omega
  ·exact count_le n L (by omega) fun j hj hpj => h j (by omega) hpj
open Go.RowKit
abbrev pP (p : Pg) : PV := .agg (rowP p)
theorem in_spec (n m : Int) : PCall Tryz.prog 71 [.int .i64 n, .int .i64 m] (.bool (inS n m)) := by
 refine pcall_go Tryz.func71 E71.h ?_
 by_cases h0 : 0 ≤ n
 ·have d0 := decide_eq_true h0
  simp only [U71, d0, seval, bA]
  simp [inS, h0]
 ·have d0 := decide_eq_false h0
  simp only [U71, d0, seval, bA]
  simp [inS, h0]
theorem may_spec (p : Pg) : PCall Tryz.prog 36 [pP p] (.bool (mayB p)) := by
 refine pcall_go Tryz.func36 E36.h ?_
 by_cases h0 : 1 ≤ p.kd
 ·have d0 := decide_eq_true h0
  by_cases h1 : p.kd ≤ 4
  ·have d1 := decide_eq_true h1
   simp only [U36, rowP, d0, d1, seval, bA]
   refine callI (in_spec p.sp 65535) ?_
   cases h2 : inS p.sp 65535 with
   | true =>
    simp only [U36, rowP, d0, d1, seval, bA]
    refine callI (in_spec p.ky 4294967295) ?_
    cases h3 : inS p.ky 4294967295 with
    | true =>
     simp only [U36, rowP, d0, d1, seval, bA]
     refine callI (in_spec p.sq 281474976710655) ?_
     cases h4 : inS p.sq 281474976710655 with
     | true =>
      simp only [U36, rowP, d0, d1, seval, bA]
      simp [mayB, len100, h0, h1, h2, h3, h4]
     | false =>
      simp only [U36, rowP, d0, d1, seval, bA]
      simp [mayB, len100, h0, h1, h2, h3, h4]
    | false =>
     simp only [U36, rowP, d0, d1, seval, bA]
     simp [mayB, len100, h0, h1, h2, h3]
   | false =>
    simp only [U36, rowP, d0, d1, seval, bA]
    simp [mayB, len100, h0, h1, h2]
  ·have d1 := decide_eq_false h1
   simp only [U36, rowP, d0, d1, seval, bA]
   simp [mayB, len100, h0, h1]
 ·have d0 := decide_eq_false h0
  simp only [U36, rowP, d0, seval, bA]
  simp [mayB, len100, h0]
open Go.RowKit
theorem widths_spec : PCall Tryz.prog 35 [] (.slc (rowsZ .i64 [1, 2, 4, 6, 1])) := by
 refine pcall_go Tryz.func35 E35.h ?_
 simp only [U35, seval, bA]
 rfl
theorem wrapU_nat {n : Int} (h0 : 0 ≤ n) (h : n < 18446744073709551616) : IntKind.u64.wrap n = ((n.toNat : Nat) : Int) := by rw [wrap64]; omega
theorem write_spec (p : Pg) (hb : p.bo.length ≤ 9223372036854775807) : PCall Tryz.prog 30 [pP p] (.tup [.str (writeS p).1, .int .i64 (writeS p).2]) := by
 refine pcall_go Tryz.func30 E30.h ?_
 simp only [U30, rowP, seval, bA]
 refine callI (may_spec p) ?_
 cases h : mayB p with
 | false =>
  simp only [U30, seval, bA]
  simp [writeS, h]
 | true =>
  obtain ⟨a, b, c, d, e, f, g, hh, i⟩ := mayB_iff.1 h
  have e1 : IntKind.u64.wrap p.kd = ((p.kd.toNat : Nat) : Int) := wrapU_nat (by omega) (by omega)
  have e2 : IntKind.u64.wrap p.sp = ((p.sp.toNat : Nat) : Int) := wrapU_nat (by omega) (by omega)
  have e3 : IntKind.u64.wrap p.ky = ((p.ky.toNat : Nat) : Int) := wrapU_nat (by omega) (by omega)
  have e4 : IntKind.u64.wrap p.sq = ((p.sq.toNat : Nat) : Int) := wrapU_nat (by omega) (by omega)
  have e5 : IntKind.u64.wrap (p.bo.length : Int) = ((p.bo.length : Nat) : Int) := wrapU (by omega) (by omega)
  simp only [U30, rowP, e1, e2, e3, e4, e5, seval, bA]
  refine callI widths_spec ?_
  simp only [U30, rowP, seval, bA]
  refine callI (row_spec [p.kd.toNat, p.sp.toNat, p.ky.toNat, p.sq.toNat, p.bo.length] [1, 2, 4, 6, 1] (by simp) (by simp) (by
   intro n hn
   simp only [List.mem_cons, List.not_mem_nil, or_false] at hn
   rcases hn with rfl | rfl | rfl | rfl | rfl <;> omega)) ?_
  rw [row_page p h]
  have hl := headS_len p
  have f1 : binS .add [83, 99] (headS p) = some (.str ([83, 99] ++ headS p)) := by rw [binS, if_pos (by simp; omega)]
  have f2 : binS .add ([83, 99] ++ headS p) p.bo = some (.str ([83, 99] ++ headS p ++ p.bo)) := by rw [binS, if_pos (by simp; omega)]
  simp only [List.append_assoc, List.cons_append, List.nil_append] at f1 f2
  simp only [U30, rowP, f1, f2, seval, bA]
  have hwr : writeS p = (sealS (bodyS p), 0) := by rw [writeS, if_pos h]
  have hb2 : 83 :: 99 :: (headS p ++ p.bo) = bodyS p := by simp [bodyS]
  rw [hb2, hwr]
  refine callI (seal_spec (bodyS p) (by rw [bodyS_len]; omega)) ?_
  simp only [U30, seval, bA]
end Go.Proofs.YtdgpiobmncohjaaGreatDoor.Aw
