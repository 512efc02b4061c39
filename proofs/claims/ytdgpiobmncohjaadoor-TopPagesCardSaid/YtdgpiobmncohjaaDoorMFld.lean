/-
  Numbers as bytes, the lowest first. Plain Lean.
-/
import Derived.Test.YtdgpiobmncohjaaDoorAwNum
namespace Go.Proofs.YtdgpiobmncohjaaDoor.Aw
open Go.RowKit

def leB : Nat → Nat → List UInt8
  | 0, _ => []
  | w + 1, n => UInt8.ofNat n :: leB w (n / 256)
def leN : List UInt8 → Nat
  | [] => 0
  | b :: r => b.toNat + 256 * leN r

theorem leB_len : ∀ w n, (leB w n).length = w
  | 0, _ => rfl
  | w + 1, n => by simp [leB, leB_len w]
theorem leN_leB : ∀ w n, leN (leB w n) = n % 256 ^ w
  | 0, n => by simp [leB, leN, Nat.mod_one]
  | w + 1, n => by
    rw [leB, leN, leN_leB w, UInt8.toNat_ofNat', show 256 ^ (w + 1) = 256 * 256 ^ w by rw [Nat.pow_succ, Nat.mul_comm], Nat.mod_mul]
theorem leN_lt : ∀ l : List UInt8, leN l < 256 ^ l.length
  | [] => by simp [leN]
  | b :: r => by
    have h := leN_lt r
    have hb : b.toNat < 256 := b.toBitVec.isLt
    rw [leN, List.length_cons, Nat.pow_succ]; omega
theorem leB_leN : ∀ l : List UInt8, leB l.length (leN l) = l
  | [] => rfl
  | b :: r => by
    have hb : b.toNat < 256 := b.toBitVec.isLt
    have e : (b.toNat + 256 * leN r) / 256 = leN r := by omega
    rw [List.length_cons, leN, leB, e, leB_leN r]
    congr 1
    apply UInt8.toNat_inj.1
    rw [UInt8.toNat_ofNat']; omega
theorem leN_append : ∀ a b : List UInt8, leN (a ++ b) = leN a + 256 ^ a.length * leN b
  | [], b => by simp [leN]
  | x :: a, b => by
    rw [List.cons_append, leN, leN, leN_append a b, List.length_cons, Nat.pow_succ, Nat.mul_add, Nat.mul_comm (256 ^ a.length) 256, Nat.mul_assoc]; omega
theorem leB_snoc : ∀ w n, leB (w + 1) n = leB w n ++ [UInt8.ofNat (n / 256 ^ w)]
  | 0, n => by simp [leB]
  | w + 1, n => by
    rw [leB, leB_snoc w (n / 256), leB, Nat.div_div_eq_div_mul, show 256 ^ (w + 1) = 256 * 256 ^ w by rw [Nat.pow_succ, Nat.mul_comm]]; rfl
theorem leB_inj {w n m : Nat} (hn : n < 256 ^ w) (hm : m < 256 ^ w) (h : leB w n = leB w m) : n = m := by
  have := congrArg leN h
  rwa [leN_leB, leN_leB, Nat.mod_eq_of_lt hn, Nat.mod_eq_of_lt hm] at this
/-- A number from its highest byte on, as it is read from the last byte back. -/
theorem leN_step {l : List UInt8} {i : Nat} (h : i < l.length) : leN (l.drop i) = 256 * leN (l.drop (i + 1)) + l[i].toNat := by
  rw [List.drop_eq_getElem_cons h, leN]; omega
theorem pow256 (w : Nat) : 256 ^ w = 2 ^ (8 * w) := by rw [Nat.pow_mul]
theorem w64 {n : Nat} (h : n < 18446744073709551616) : IntKind.u64.wrap (n : Int) = n := by rw [wrap64]; omega
theorem byte8 (n : Nat) : IntKind.u8.wrap (n : Int) = ((UInt8.ofNat n).toNat : Int) := by rw [wrap8, UInt8.toNat_ofNat']; omega
theorem shr64N {n : Nat} (h : n < 18446744073709551616) (k : Nat) : shI .shr .u64 (n : Int) (k : Int) = some (.int .u64 ((n / 2 ^ k : Nat) : Int)) := by
  have e : (n : Int).fdiv (2 ^ min k 64) = ((n / 2 ^ k : Nat) : Int) := by
    rw [Int.fdiv_eq_ediv_of_nonneg _ (Int.le_of_lt (Int.pow_pos (by decide)))]
    by_cases hk : k ≤ 64
    · rw [Nat.min_eq_left hk]; simp
    · have hn : n < 2 ^ 64 := by simpa using h
      rw [Nat.min_eq_right (by omega), Nat.div_eq_of_lt (Nat.lt_of_lt_of_le hn (Nat.pow_le_pow_right (by decide) (by omega)))]
      have : ((n : Int) / 2 ^ 64) = ((n / 2 ^ 64 : Nat) : Int) := by simp
      rw [this, Nat.div_eq_of_lt hn]
  simp only [shI, IntKind.bits]
  rw [if_neg (by omega), Int.toNat_natCast, e]
theorem shr64' {n : Nat} (h : n < 18446744073709551616) (k : Nat) : shI .shr .u64 (n : Int) (no_index (OfNat.ofNat k : Int)) = some (.int .u64 ((n / 2 ^ (OfNat.ofNat k : Nat) : Nat) : Int)) := shr64N h k
theorem shl64_8 (n : Nat) : shI .shl .u64 (n : Int) 8 = some (.int .u64 ((n * 256 % 18446744073709551616 : Nat) : Int)) := by
  simp only [shI, IntKind.bits]
  have e : (n : Int) * 2 ^ min (8 : Int).toNat 64 = ((n * 256 : Nat) : Int) := by
    have : min (8 : Int).toNat 64 = 8 := by decide
    rw [this]; simp
  rw [if_neg (by omega), e, wrap64]; rfl
theorem or64 {a b : Nat} (ha : a % 256 = 0) (hb : b < 256) (h : a < 18446744073709551616) : binI .or .u64 (a : Int) (b : Int) = some (.int .u64 ((a + b : Nat) : Int)) := by
  have h0 : binI .or .u64 (a : Int) (b : Int) = some (.int .u64 (IntKind.u64.wrap ((BitVec.ofInt 64 (a : Int) ||| BitVec.ofInt 64 (b : Int)).toNat : Int))) := rfl
  have e : (BitVec.ofInt 64 (a : Int) ||| BitVec.ofInt 64 (b : Int)).toNat = a + b := by
    rw [BitVec.ofInt_natCast, BitVec.ofInt_natCast, BitVec.toNat_or, BitVec.toNat_ofNat, BitVec.toNat_ofNat, Nat.mod_eq_of_lt (by simpa using h), Nat.mod_eq_of_lt (by have := h; simp; omega)]
    obtain ⟨c, rfl⟩ : ∃ c, a = 2 ^ 8 * c := ⟨a / 256, by simp; omega⟩
    rw [Nat.two_pow_add_eq_or_of_lt hb]
  rw [h0, e, w64 (by omega)]
end Go.Proofs.YtdgpiobmncohjaaDoor.Aw
