/-
  What the document's functions of layer 1 compute: the same.
-/
import Derived.Test.YtklniadgdbjcpaaPFld2
set_option linter.unusedSimpArgs false
set_option linter.unusedVariables false
namespace Go.Proofs.Ytklniadgdbjcpaa.Aw
open Go.RowKit

theorem ofNat_mod (n : Nat) : UInt8.ofNat (n % 256) = UInt8.ofNat n := by
  apply UInt8.toNat_inj.1
  simp only [UInt8.toNat_ofNat']; omega
theorem div64 (n : Nat) (h : n < 18446744073709551616) : IntKind.u64.wrap ((n : Int).tdiv 256) = ((n / 256 : Nat) : Int) := by
  rw [show (256 : Int) = ((256 : Nat) : Int) from rfl, tdivN, w64 (by omega)]
theorem mod64 (n : Nat) : (n : Int).tmod 256 = ((n % 256 : Nat) : Int) := by
  rw [show (256 : Int) = ((256 : Nat) : Int) from rfl, tmodN]
theorem div_pow (n i : Nat) : n / 256 ^ i / 256 = n / 256 ^ (i + 1) := by rw [Nat.div_div_eq_div_mul, Nat.pow_succ]

theorem rfield_spec (n w : Nat) (hn : n < 18446744073709551616) (h1 : 1 ≤ w) (h8 : w ≤ 8) : PCall Try.prog 50 [.int .u64 n, .int .i64 w] (.tup [.str (leB w n), .bool (decide (n < 256 ^ w))]) := by
  refine pcall_go Try.func50 comp_ref01_field ?_
  simp (config := {maxSteps := 4000000}) only [U_ref01_field, reduceIte, reduceCtorEq, Nat.reduceEqDiff, Nat.reduceAdd, Int.reduceLT, Int.reduceLE, Int.reduceNeg, Int.reduceEq, Nat.reduceLT, Nat.reduceSub, Nat.reduceMul, Nat.reduceBEq, Nat.reduceLeDiff, Int.reduceBEq, Int.reduceBNe, Int.reduceToNat, ne_eq, implies_true, bA]
  refine loopF (fun i : Nat => ⟨ofL [(0, .int .u64 (n / 256 ^ i : Nat)), (1, .int .i64 w), (6, .osl 0 0 i), (7, .int .i64 i)], [.list 1 (byteRows (leB i n))]⟩) (fun i => i ≤ w) (fun i => w - i) 0 ?_ (Nat.zero_le _) ?_
  · simp (config := {maxSteps := 4000000}) only [U_ref01_field, Nat.pow_zero, Nat.div_one, reduceIte, reduceCtorEq, Nat.reduceEqDiff, Nat.reduceAdd, Int.reduceLT, Int.reduceLE, Int.reduceNeg, Int.reduceEq, Nat.reduceLT, Nat.reduceSub, Nat.reduceMul, Nat.reduceBEq, Nat.reduceLeDiff, Int.reduceBEq, Int.reduceBNe, Int.reduceToNat, ne_eq, implies_true, bA]
    all_goals rfl
  · intro i hi
    have hl : (leB i n).length = i := leB_len i n
    by_cases h : i < w
    · have d : decide ((i : Int) < (w : Int)) = true := by simpa using h
      have hd : n / 256 ^ i < 18446744073709551616 := Nat.lt_of_le_of_lt (Nat.div_le_self _ _) hn
      have e1 : IntKind.i64.wrap ((i : Int) + 1) = ((i + 1 : Nat) : Int) := by rw [wrapI (by omega) (by omega)]; omega
      have z : (256 : Int) ≠ 0 := by decide
      simp (config := {maxSteps := 4000000}) only [U_ref01_field, d, binI_rem z, binI_quo z, mod64, div64 _ hd, byte8, ofNat_mod, app_byte (ob := [AObj.list 1 (byteRows (leB i n))]) (fb := []) (o := 0) (n := i) (l := leB i n) (b := UInt8.ofNat (n / 256 ^ i)) rfl rfl hl.symm (by omega), ← leB_snoc, div_pow, e1, reduceIte, reduceCtorEq, Nat.reduceEqDiff, Nat.reduceAdd, Int.reduceLT, Int.reduceLE, Int.reduceNeg, Int.reduceEq, Nat.reduceLT, Nat.reduceSub, Nat.reduceMul, Nat.reduceBEq, Nat.reduceLeDiff, Int.reduceBEq, Int.reduceBNe, Int.reduceToNat, ne_eq, implies_true, bA]
      exact ⟨i + 1, rfl, by omega, by omega⟩
    · have d : decide ((i : Int) < (w : Int)) = false := by simpa using h
      have : i = w := by omega
      subst this
      simp (config := {maxSteps := 4000000}) only [U_ref01_field, d, rowsO_bytes hl.symm, b2sV_rows, bytesOf_byteRows, reduceIte, reduceCtorEq, Nat.reduceEqDiff, Nat.reduceAdd, Int.reduceLT, Int.reduceLE, Int.reduceNeg, Int.reduceEq, Nat.reduceLT, Nat.reduceSub, Nat.reduceMul, Nat.reduceBEq, Nat.reduceLeDiff, Int.reduceBEq, Int.reduceBNe, Int.reduceToNat, ne_eq, implies_true, bA]
      have hz : (n / 256 ^ i = 0) ↔ n < 256 ^ i := Nat.div_eq_zero_iff_lt (Nat.pow_pos (by decide))
      by_cases hd : n < 256 ^ i
      · have e0 := hz.2 hd
        rw [e0]; simp [hd]
      · have h0 : ¬ n / 256 ^ i = 0 := fun h => hd (hz.1 h)
        have h1 : (((n / 256 ^ i : Nat) : Int) == 0) = false := by simp only [beq_eq_false_iff_ne, ne_eq]; omega
        rw [h1]; simp [hd]

theorem rput_spec (n : Nat) (w : Int) (hn : n < 18446744073709551616) : PCall Try.prog 42 [.int .u64 n, .int .i64 w] (.tup [.str (putS n w).1, .int .i64 (putS n w).2]) := by
  refine pcall_go Try.func42 comp_ref01_Put ?_
  by_cases h : wid w = true
  · have hw := wid_iff.1 h
    have d1 : decide (w < 1) = false := by simp; omega
    have d2 : decide (8 < w) = false := by simp; omega
    obtain ⟨k, rfl⟩ : ∃ k : Nat, w = k := ⟨w.toNat, by omega⟩
    simp (config := {maxSteps := 4000000}) only [U_ref01_Put, d1, d2, reduceIte, reduceCtorEq, Nat.reduceEqDiff, Nat.reduceAdd, Int.reduceLT, Int.reduceLE, Int.reduceNeg, Int.reduceEq, Nat.reduceLT, Nat.reduceSub, Nat.reduceMul, Nat.reduceBEq, Nat.reduceLeDiff, Int.reduceBEq, Int.reduceBNe, Int.reduceToNat, ne_eq, implies_true, bA]
    refine callI (rfield_spec n k hn (by omega) (by omega)) ?_
    by_cases h2 : n < 256 ^ k
    · have d2 : decide (n < 256 ^ k) = true := by simpa using h2
      simp (config := {maxSteps := 4000000}) only [U_ref01_Put, d2, reduceIte, reduceCtorEq, Nat.reduceEqDiff, Nat.reduceAdd, Int.reduceLT, Int.reduceLE, Int.reduceNeg, Int.reduceEq, Nat.reduceLT, Nat.reduceSub, Nat.reduceMul, Nat.reduceBEq, Nat.reduceLeDiff, Int.reduceBEq, Int.reduceBNe, Int.reduceToNat, ne_eq, implies_true, bA]
      simp [putS, h, h2]
    · have d2 : decide (n < 256 ^ k) = false := by simpa using h2
      simp (config := {maxSteps := 4000000}) only [U_ref01_Put, d2, reduceIte, reduceCtorEq, Nat.reduceEqDiff, Nat.reduceAdd, Int.reduceLT, Int.reduceLE, Int.reduceNeg, Int.reduceEq, Nat.reduceLT, Nat.reduceSub, Nat.reduceMul, Nat.reduceBEq, Nat.reduceLeDiff, Int.reduceBEq, Int.reduceBNe, Int.reduceToNat, ne_eq, implies_true, bA]
      simp [putS, h, h2]
  · simp only [Bool.not_eq_true] at h
    have hw := wid_false.1 h
    by_cases h1 : w < 1
    · have d1 : decide (w < 1) = true := by simpa using h1
      simp (config := {maxSteps := 4000000}) only [U_ref01_Put, d1, reduceIte, reduceCtorEq, Nat.reduceEqDiff, Nat.reduceAdd, Int.reduceLT, Int.reduceLE, Int.reduceNeg, Int.reduceEq, Nat.reduceLT, Nat.reduceSub, Nat.reduceMul, Nat.reduceBEq, Nat.reduceLeDiff, Int.reduceBEq, Int.reduceBNe, Int.reduceToNat, ne_eq, implies_true, bA]
      simp [putS, h]
    · have d1 : decide (w < 1) = false := by simpa using h1
      have d2 : decide (8 < w) = true := by simp; omega
      simp (config := {maxSteps := 4000000}) only [U_ref01_Put, d1, d2, reduceIte, reduceCtorEq, Nat.reduceEqDiff, Nat.reduceAdd, Int.reduceLT, Int.reduceLE, Int.reduceNeg, Int.reduceEq, Nat.reduceLT, Nat.reduceSub, Nat.reduceMul, Nat.reduceBEq, Nat.reduceLeDiff, Int.reduceBEq, Int.reduceBNe, Int.reduceToNat, ne_eq, implies_true, bA]
      simp [putS, h]

theorem rget_spec (s : List UInt8) (a w : Int) (hs : s.length ≤ 9223372036854775807) (ha1 : -9223372036854775808 ≤ a) (ha2 : a ≤ 9223372036854775807) :
    PCall Try.prog 44 [.str s, .int .i64 a, .int .i64 w] (.tup [.int .u64 (getS s a w).1, .int .i64 (getS s a w).2]) := by
  refine pcall_go Try.func44 comp_ref01_Get ?_
  by_cases h : wid w = true
  · have hw := wid_iff.1 h
    have d1 : decide (w < 1) = false := by simp; omega
    have d2 : decide (8 < w) = false := by simp; omega
    obtain ⟨k, rfl⟩ : ∃ k : Nat, w = k := ⟨w.toNat, by omega⟩
    by_cases h2 : a < 0
    · have d3 : decide (a < 0) = true := by simpa using h2
      simp (config := {maxSteps := 4000000}) only [U_ref01_Get, d1, d2, d3, reduceIte, reduceCtorEq, Nat.reduceEqDiff, Nat.reduceAdd, Int.reduceLT, Int.reduceLE, Int.reduceNeg, Int.reduceEq, Nat.reduceLT, Nat.reduceSub, Nat.reduceMul, Nat.reduceBEq, Nat.reduceLeDiff, Int.reduceBEq, Int.reduceBNe, Int.reduceToNat, ne_eq, implies_true, bA]
      simp [getS, h2]
    · have d3 : decide (a < 0) = false := by simpa using h2
      obtain ⟨i, rfl⟩ : ∃ i : Nat, a = i := ⟨a.toNat, by omega⟩
      by_cases h3 : (s.length : Int) < i
      · have d4 : decide ((s.length : Int) < (i : Int)) = true := by simpa using h3
        simp (config := {maxSteps := 4000000}) only [U_ref01_Get, d1, d2, d3, d4, reduceIte, reduceCtorEq, Nat.reduceEqDiff, Nat.reduceAdd, Int.reduceLT, Int.reduceLE, Int.reduceNeg, Int.reduceEq, Nat.reduceLT, Nat.reduceSub, Nat.reduceMul, Nat.reduceBEq, Nat.reduceLeDiff, Int.reduceBEq, Int.reduceBNe, Int.reduceToNat, ne_eq, implies_true, bA]
        have h4 : (s.length : Int) - i < k := by omega
        simp [getS, h, h4, h2]
      · have d4 : decide ((s.length : Int) < (i : Int)) = false := by simpa using h3
        have e : IntKind.i64.wrap ((s.length : Int) - (i : Int)) = (s.length : Int) - i := wrapI (by omega) (by omega)
        by_cases h4 : (s.length : Int) - i < k
        · have d5 : decide ((s.length : Int) - (i : Int) < (k : Int)) = true := by simpa using h4
          simp (config := {maxSteps := 4000000}) only [U_ref01_Get, d1, d2, d3, d4, e, d5, reduceIte, reduceCtorEq, Nat.reduceEqDiff, Nat.reduceAdd, Int.reduceLT, Int.reduceLE, Int.reduceNeg, Int.reduceEq, Nat.reduceLT, Nat.reduceSub, Nat.reduceMul, Nat.reduceBEq, Nat.reduceLeDiff, Int.reduceBEq, Int.reduceBNe, Int.reduceToNat, ne_eq, implies_true, bA]
          simp [getS, h, h4, h2]
        · have d5 : decide ((s.length : Int) - (i : Int) < (k : Int)) = false := by simpa using h4
          simp (config := {maxSteps := 4000000}) only [U_ref01_Get, d1, d2, d3, d4, e, d5, reduceIte, reduceCtorEq, Nat.reduceEqDiff, Nat.reduceAdd, Int.reduceLT, Int.reduceLE, Int.reduceNeg, Int.reduceEq, Nat.reduceLT, Nat.reduceSub, Nat.reduceMul, Nat.reduceBEq, Nat.reduceLeDiff, Int.reduceBEq, Int.reduceBNe, Int.reduceToNat, ne_eq, implies_true, bA]
          obtain ⟨l, hl⟩ : ∃ l, l = (s.drop i).take k := ⟨_, rfl⟩
          have hll : l.length = k := by rw [hl]; simp; omega
          refine loopF (fun j : Nat => ⟨ofL [(0, .str s), (1, .int .i64 i), (2, .int .i64 k), (8, .int .u64 (leN (l.take j))), (9, .int .u64 (256 ^ j % 18446744073709551616 : Nat)), (10, .int .i64 j)], []⟩) (fun j => j ≤ k) (fun j => k - j) 0 ?_ (by omega) ?_
          · have e0 : 256 ^ 0 % 18446744073709551616 = 1 := by decide
            simp (config := {maxSteps := 4000000}) only [U_ref01_Get, e0, reduceIte, reduceCtorEq, Nat.reduceEqDiff, Nat.reduceAdd, Int.reduceLT, Int.reduceLE, Int.reduceNeg, Int.reduceEq, Nat.reduceLT, Nat.reduceSub, Nat.reduceMul, Nat.reduceBEq, Nat.reduceLeDiff, Int.reduceBEq, Int.reduceBNe, Int.reduceToNat, ne_eq, implies_true, bA]
            all_goals simp [leN]
          · intro j hj
            by_cases h5 : j < k
            · have d6 : decide ((j : Int) < (k : Int)) = true := by simpa using h5
              have hpow : 256 ^ j ≤ 256 ^ 7 := Nat.pow_le_pow_right (by decide) (by omega)
              have e256 : 256 ^ 7 = 72057594037927936 := by decide
              have em : 256 ^ j % 18446744073709551616 = 256 ^ j := Nat.mod_eq_of_lt (by omega)
              have hlt := leN_lt (l.take j)
              have hlj : (l.take j).length = j := by simp; omega
              rw [hlj] at hlt
              have hix : i + j < s.length := by omega
              have e6 : IntKind.i64.wrap ((i : Int) + (j : Int)) = ((i + j : Nat) : Int) := by rw [wrapI (by omega) (by omega)]; omega
              have e7 : IntKind.i64.wrap ((j : Int) + 1) = ((j + 1 : Nat) : Int) := by rw [wrapI (by omega) (by omega)]; omega
              have hb : (s[i + j]).toNat < 256 := (s[i + j]).toBitVec.isLt
              have e8 : IntKind.u64.wrap ((s[i + j]).toNat : Int) = ((s[i + j]).toNat : Int) := w64 (by omega)
              have hm : 256 ^ j * (s[i + j]).toNat ≤ 256 ^ 7 * 255 := Nat.mul_le_mul hpow (by omega)
              have e9 : IntKind.u64.wrap (((256 ^ j : Nat) : Int) * ((s[i + j]).toNat : Int)) = ((256 ^ j * (s[i + j]).toNat : Nat) : Int) := by
                rw [← Int.natCast_mul, w64 (by omega)]
              have hst : leN (l.take (j + 1)) = leN (l.take j) + 256 ^ j * (s[i + j]).toNat := by
                rw [List.take_succ_eq_append_getElem (by omega : j < l.length), leN_append, hlj]
                have : l[j] = s[i + j] := by
                  subst hl
                  simp only [List.getElem_take, List.getElem_drop]
                rw [this]; simp [leN]
              have e10 : IntKind.u64.wrap ((leN (l.take j) : Int) + ((256 ^ j * (s[i + j]).toNat : Nat) : Int)) = ((leN (l.take (j + 1)) : Nat) : Int) := by
                rw [hst, ← Int.natCast_add, w64 (by omega)]
              have e11 : IntKind.u64.wrap (((256 ^ j : Nat) : Int) * 256) = ((256 ^ (j + 1) % 18446744073709551616 : Nat) : Int) := by
                rw [wrap64, Nat.pow_succ]; omega
              simp (config := {maxSteps := 4000000}) only [U_ref01_Get, d6, e6, em, idxsV_at hix, e8, e9, e10, e11, e7, reduceIte, reduceCtorEq, Nat.reduceEqDiff, Nat.reduceAdd, Int.reduceLT, Int.reduceLE, Int.reduceNeg, Int.reduceEq, Nat.reduceLT, Nat.reduceSub, Nat.reduceMul, Nat.reduceBEq, Nat.reduceLeDiff, Int.reduceBEq, Int.reduceBNe, Int.reduceToNat, ne_eq, implies_true, bA]
              exact ⟨j + 1, rfl, by omega, by omega⟩
            · have d6 : decide ((j : Int) < (k : Int)) = false := by simpa using h5
              have : j = k := by omega
              subst this
              have hg : getS s i j = (leN l, 0) := by
                simp only [getS, h, Int.toNat_natCast, hl]
                rw [if_neg (by simp), if_neg h4]
              have ht : l.take j = l := List.take_of_length_le (by omega)
              simp (config := {maxSteps := 4000000}) only [U_ref01_Get, d6, hg, ht, reduceIte, reduceCtorEq, Nat.reduceEqDiff, Nat.reduceAdd, Int.reduceLT, Int.reduceLE, Int.reduceNeg, Int.reduceEq, Nat.reduceLT, Nat.reduceSub, Nat.reduceMul, Nat.reduceBEq, Nat.reduceLeDiff, Int.reduceBEq, Int.reduceBNe, Int.reduceToNat, ne_eq, implies_true, bA]
  · simp only [Bool.not_eq_true] at h
    have hw := wid_false.1 h
    by_cases h1 : w < 1
    · have d1 : decide (w < 1) = true := by simpa using h1
      simp (config := {maxSteps := 4000000}) only [U_ref01_Get, d1, reduceIte, reduceCtorEq, Nat.reduceEqDiff, Nat.reduceAdd, Int.reduceLT, Int.reduceLE, Int.reduceNeg, Int.reduceEq, Nat.reduceLT, Nat.reduceSub, Nat.reduceMul, Nat.reduceBEq, Nat.reduceLeDiff, Int.reduceBEq, Int.reduceBNe, Int.reduceToNat, ne_eq, implies_true, bA]
      simp [getS, h]
    · have d1 : decide (w < 1) = false := by simpa using h1
      have d2 : decide (8 < w) = true := by simp; omega
      simp (config := {maxSteps := 4000000}) only [U_ref01_Get, d1, d2, reduceIte, reduceCtorEq, Nat.reduceEqDiff, Nat.reduceAdd, Int.reduceLT, Int.reduceLE, Int.reduceNeg, Int.reduceEq, Nat.reduceLT, Nat.reduceSub, Nat.reduceMul, Nat.reduceBEq, Nat.reduceLeDiff, Int.reduceBEq, Int.reduceBNe, Int.reduceToNat, ne_eq, implies_true, bA]
      simp [getS, h]

end Go.Proofs.Ytklniadgdbjcpaa.Aw
