/-
  The statements of layer check: what the law's functions do.
-/
import Derived.Test.YtoofeppepahpfaaMCrc
import Derived.Test.YtoofeppepahpfaaAwOpen
import Derived.OpenShut
set_option linter.unusedSimpArgs false
set_option linter.unusedVariables false
namespace Go.Proofs.Ytoofeppepahpfaa.Aw
open Go.RowKit

def mixS (a b c : List UInt8) : List UInt8 := List.zipWith (· ^^^ ·) (List.zipWith (· ^^^ ·) a b) c

theorem sum_mix (a b c : List UInt8) (h1 : a.length = b.length) (h2 : a.length = c.length) : sumS (mixS a b c) = sumS a ^^^ sumS b ^^^ sumS c := by
  have hz : ∀ (s t : List UInt8) (x y : BitVec 32), s.length = t.length → foldS (x ^^^ y) (List.zipWith (· ^^^ ·) s t) = foldS x s ^^^ foldS y t := fun s t x y h => foldS_xor s t x y h
  have hl : (List.zipWith (· ^^^ ·) a b).length = c.length := by simp; omega
  have e : ~~~ (0#32) = (~~~ 0#32 ^^^ ~~~ 0#32) ^^^ ~~~ 0#32 := by decide
  simp only [sumS, moreS, mixS]
  conv => lhs; rw [e, hz _ _ _ _ hl, hz _ _ _ _ h1]
  generalize foldS (~~~ 0#32) a = x
  generalize foldS (~~~ 0#32) b = y
  generalize foldS (~~~ 0#32) c = z
  apply BitVec.eq_of_getLsbD_eq
  intro i hi
  simp only [BitVec.getLsbD_not, BitVec.getLsbD_xor, hi, decide_true, Bool.true_and]
  cases x.getLsbD i <;> cases y.getLsbD i <;> cases z.getLsbD i <;> rfl

theorem bit_word (A : BitVec 32) (j : Nat) : (((A >>> j &&& BitVec.ofInt 32 1).toNat : Int) == 1) = A.getLsbD j := by
  have e : A >>> j &&& BitVec.ofInt 32 1 = if A.getLsbD j then 1#32 else 0#32 := by
    apply BitVec.eq_of_getLsbD_eq
    intro i hi
    rw [BitVec.getLsbD_and, BitVec.getLsbD_ushiftRight]
    have h1 : (BitVec.ofInt 32 1).getLsbD i = decide (i = 0) := by
      have : BitVec.ofInt 32 1 = 1#32 := by decide
      rw [this, BitVec.getLsbD_one]; simp
    rw [h1]
    by_cases h0 : i = 0
    · subst h0; cases A.getLsbD j <;> simp
    · cases A.getLsbD j <;> simp [h0, BitVec.getLsbD_one]
  rw [e]; cases A.getLsbD j <;> decide
theorem burst_open (s t : List UInt8) (fi : Nat) (A : BitVec 32) (ht : t = sealS s) (hne : flips t fi A 32 ≠ t) : (openS (flips t fi A 32)).1 = [] ∧ (openS (flips t fi A 32)).2 = 6 := by
  have hl := flips_length t fi A 32
  have htl : t.length = s.length + 4 := by rw [ht, seal_len]
  obtain ⟨X, hX⟩ : ∃ X, X = flips t fi A 32 := ⟨_, rfl⟩
  rw [← hX] at hl hne ⊢
  have h4 : ¬ X.length < 4 := by omega
  have hne2 : sealS (X.take (X.length - 4)) ≠ X := by
    intro he
    apply hne
    rw [hX]
    apply burst_seen t fi A (~~~ 0#32)
    rw [← hX]
    obtain ⟨x, w, hxw⟩ : ∃ x w, X = x ++ tail4 w := ⟨_, _, by rw [← he]; rfl⟩
    obtain ⟨y, v, hyv⟩ : ∃ y v, t = y ++ tail4 v := ⟨_, _, by rw [ht]; rfl⟩
    have hx4 : (tail4 w).length = 4 := rfl
    have hy4 : (tail4 v).length = 4 := rfl
    have hXx : X.take (X.length - 4) = x := by rw [hxw]; simp [hx4]
    have hsy : s = y := by
      have h1 : t.take (t.length - 4) = s := by rw [ht, seal_len]; simp [sealS]
      have h2 : t.take (t.length - 4) = y := by rw [hyv]; simp [hy4]
      rw [← h1, h2]
    rw [hXx, hxw] at he
    rw [hxw, hyv, (seal_iff x w).1 he, (seal_iff y v).1 (by rw [← hyv, ht, hsy])]
  rw [openS, if_neg h4, if_neg hne2]; exact ⟨rfl, rfl⟩
/- as the row asks -/
theorem u32_word {n : Int} (wn : (Lit.int .u32 n).wf = true) : PV.int .u32 n = w32 (BitVec.ofInt 32 n) := by
  have hn : (n : Int) = ((BitVec.ofInt 32 n).toNat : Int) := by
    have e0 : IntKind.u32.min = 0 := by decide
    have e1 : IntKind.u32.max = 4294967295 := by decide
    simp only [Lit.wf, e0, e1, Bool.and_eq_true, decide_eq_true_eq] at wn
    rw [BitVec.toNat_ofInt, Int.natCast_toNat_eq_self.mpr (Int.emod_nonneg _ (by decide))]
    simp only [Nat.reducePow, Int.cast_ofNat_Int]
    omega
  rw [w32, ← hn]

end Go.Proofs.Ytoofeppepahpfaa.Aw
