/-
  Statements of layer 13, as contracts: Back, Many, Parts.
-/
import Derived.Test.YtokpmpbhpafncaaL13
set_option linter.unusedSimpArgs false
set_option linter.unusedVariables false
namespace Go.Proofs.Ytokpmpbhpafncaa.Aw
open Go.RowKit

theorem eqS (a : Int) : (a == a) = true := by simp
section
variable {cap n m : Int}
theorem cg1 (hn : n < 0) : chargeS cap [⟨3, 5, 0⟩, ⟨8, 5, 0⟩] 3 n = ([⟨3, 5, 0⟩, ⟨8, 5, 0⟩], 1) := by simp [chargeS, hn]
theorem cg2 (hn : ¬ n < 0) (h : cap < n) : chargeS cap [⟨3, 5, 0⟩, ⟨8, 5, 0⟩] 3 n = ([⟨3, 5, 0⟩, ⟨8, 5, 0⟩], 71) := by simp [chargeS, hn, getA, sumA, h]
theorem cg3 (hn : ¬ n < 0) (h : ¬ cap < n) : chargeS cap [⟨3, 5, 0⟩, ⟨8, 5, 0⟩] 3 n = ([⟨3, 5, n⟩, ⟨8, 5, 0⟩], 0) := by simp [chargeS, hn, getA, sumA, h, insA, delA]
theorem cr1 (h : m < 0 ∨ n < m) : creditS [⟨3, 5, n⟩, ⟨8, 5, 0⟩] 3 m = ([⟨3, 5, n⟩, ⟨8, 5, 0⟩], 1) := by
  by_cases c : m < 0
  · simp [creditS, c]
  · have : n < m := by omega
    simp [creditS, c, getA, this]
theorem cr2 (h1 : ¬ m < 0) (h2 : ¬ n < m) : creditS [⟨3, 5, n⟩, ⟨8, 5, 0⟩] 3 m = ([⟨3, 5, n - m⟩, ⟨8, 5, 0⟩], 0) := by simp [creditS, h1, h2, getA, insA, delA]
theorem cg4 (h1 : ¬ m < 0) (h2 : ¬ cap < n) : chargeS cap [⟨3, 5, n - m⟩, ⟨8, 5, 0⟩] 8 m = ([⟨3, 5, n - m⟩, ⟨8, 5, m⟩], 0) := by
  have : ¬ cap - (n - m) < m := by omega
  simp [chargeS, h1, getA, sumA, this, insA, delA]
theorem cl8 : closeS [⟨3, 5, n - m⟩, ⟨8, 5, m⟩] 8 = ([⟨3, 5, n - m⟩], m, 0) := by simp [closeS, getA, delA]
theorem of3 : ofS [⟨3, 5, n - m⟩, ⟨8, 5, m⟩] 3 = (5, n - m, 0) := by simp [ofS, getA]
theorem of8 : ofS [⟨3, 5, n - m⟩, ⟨8, 5, m⟩] 8 = (5, m, 0) := by simp [ofS, getA]
theorem su2 (a b : Int) : sumA [⟨3, 5, a⟩, ⟨8, 5, b⟩] = a + b := by simp [sumA]
theorem su1 (a : Int) : sumA [⟨3, 5, a⟩] = a := by simp [sumA]
end
theorem back_law (c n m : Int) (hc : c ≤ 9223372036854775807) (hn9 : n ≤ 9223372036854775807) (hm9 : m ≤ 9223372036854775807) : PCall Try.prog 6 [.int .i64 c, .int .i64 n, .int .i64 m] (.bool true) := by
  refine pcall_dr Try.func6 comp_law13_LedgerBack ?_
  simp (config := {maxSteps := 4000000}) only [U_law13_LedgerBack, reduceIte, reduceCtorEq, Nat.reduceEqDiff, Nat.reduceAdd, Int.reduceLT, Int.reduceLE, Int.reduceNeg, Int.reduceEq, Nat.reduceLT, Nat.reduceSub, Nat.reduceMul, Nat.reduceBEq, Nat.reduceLeDiff, Int.reduceBEq, Int.reduceBNe, Int.reduceToNat, ne_eq, implies_true, bA]
  refine callM (new_i [] c hc) ?_
  rintro r o1 ⟨fp1, rfl, h1, hf1⟩
  generalize ([] : List AObj).length + 1 = b at h1 ⊢
  obtain ⟨cap, hcap⟩ : ∃ cap, max c 0 = cap := ⟨_, rfl⟩
  rw [hcap] at h1
  simp (config := {maxSteps := 4000000}) only [U_law13_LedgerBack, reduceIte, reduceCtorEq, Nat.reduceEqDiff, Nat.reduceAdd, Int.reduceLT, Int.reduceLE, Int.reduceNeg, Int.reduceEq, Nat.reduceLT, Nat.reduceSub, Nat.reduceMul, Nat.reduceBEq, Nat.reduceLeDiff, Int.reduceBEq, Int.reduceBNe, Int.reduceToNat, ne_eq, implies_true, bA]
  refine callI awake13_spec ?_
  simp (config := {maxSteps := 4000000}) only [U_law13_LedgerBack, reduceIte, reduceCtorEq, Nat.reduceEqDiff, Nat.reduceAdd, Int.reduceLT, Int.reduceLE, Int.reduceNeg, Int.reduceEq, Nat.reduceLT, Nat.reduceSub, Nat.reduceMul, Nat.reduceBEq, Nat.reduceLeDiff, Int.reduceBEq, Int.reduceBNe, Int.reduceToNat, ne_eq, implies_true, bA]
  refine callM (h1.open 3 5) ?_
  rintro r o2 ⟨rfl, fp2, h2, _⟩
  rw [show openS [] 3 5 = ([⟨3, 5, 0⟩], 0) by decide] at h2 ⊢
  simp (config := {maxSteps := 4000000}) only [U_law13_LedgerBack, reduceIte, reduceCtorEq, Nat.reduceEqDiff, Nat.reduceAdd, Int.reduceLT, Int.reduceLE, Int.reduceNeg, Int.reduceEq, Nat.reduceLT, Nat.reduceSub, Nat.reduceMul, Nat.reduceBEq, Nat.reduceLeDiff, Int.reduceBEq, Int.reduceBNe, Int.reduceToNat, ne_eq, implies_true, bA]
  refine callM (h2.open 8 5) ?_
  rintro r o3 ⟨rfl, fp3, h3, _⟩
  simp only at h3 ⊢
  rw [show openS [⟨3, 5, 0⟩] 8 5 = ([⟨3, 5, 0⟩, ⟨8, 5, 0⟩], 0) by decide] at h3 ⊢
  simp (config := {maxSteps := 4000000}) only [U_law13_LedgerBack, reduceIte, reduceCtorEq, Nat.reduceEqDiff, Nat.reduceAdd, Int.reduceLT, Int.reduceLE, Int.reduceNeg, Int.reduceEq, Nat.reduceLT, Nat.reduceSub, Nat.reduceMul, Nat.reduceBEq, Nat.reduceLeDiff, Int.reduceBEq, Int.reduceBNe, Int.reduceToNat, ne_eq, implies_true, bA]
  refine callM (h3.charge 3 n) ?_
  rintro r o4 ⟨rfl, fp4, h4, _⟩
  simp only at h4 ⊢
  by_cases cn : n < 0
  · rw [cg1 cn] at h4 ⊢
    have ht := h4.total
    rw [su2, Int.add_zero] at ht
    have dn : decide (n < 0) = true := by simpa using cn
    simp (config := {maxSteps := 4000000}) only [U_law13_LedgerBack, reduceIte, reduceCtorEq, Nat.reduceEqDiff, Nat.reduceAdd, Int.reduceLT, Int.reduceLE, Int.reduceNeg, Int.reduceEq, Nat.reduceLT, Nat.reduceSub, Nat.reduceMul, Nat.reduceBEq, Nat.reduceLeDiff, Int.reduceBEq, Int.reduceBNe, Int.reduceToNat, ne_eq, implies_true, bA]
    refine callR ht ?_
    simp (config := {maxSteps := 4000000}) only [U_law13_LedgerBack, dn, reduceIte, reduceCtorEq, Nat.reduceEqDiff, Nat.reduceAdd, Int.reduceLT, Int.reduceLE, Int.reduceNeg, Int.reduceEq, Nat.reduceLT, Nat.reduceSub, Nat.reduceMul, Nat.reduceBEq, Nat.reduceLeDiff, Int.reduceBEq, Int.reduceBNe, Int.reduceToNat, ne_eq, implies_true, bA]
  · have dn : decide (n < 0) = false := by simpa using cn
    by_cases cc : cap < n
    · rw [cg2 cn cc] at h4 ⊢
      have ht := h4.total
      rw [su2, Int.add_zero] at ht
      have dc : decide (cap < n) = true := by simpa using cc
      simp (config := {maxSteps := 4000000}) only [U_law13_LedgerBack, reduceIte, reduceCtorEq, Nat.reduceEqDiff, Nat.reduceAdd, Int.reduceLT, Int.reduceLE, Int.reduceNeg, Int.reduceEq, Nat.reduceLT, Nat.reduceSub, Nat.reduceMul, Nat.reduceBEq, Nat.reduceLeDiff, Int.reduceBEq, Int.reduceBNe, Int.reduceToNat, ne_eq, implies_true, bA]
      refine callR ht ?_
      simp (config := {maxSteps := 4000000}) only [U_law13_LedgerBack, dn, hcap, dc, reduceIte, reduceCtorEq, Nat.reduceEqDiff, Nat.reduceAdd, Int.reduceLT, Int.reduceLE, Int.reduceNeg, Int.reduceEq, Nat.reduceLT, Nat.reduceSub, Nat.reduceMul, Nat.reduceBEq, Nat.reduceLeDiff, Int.reduceBEq, Int.reduceBNe, Int.reduceToNat, ne_eq, implies_true, bA]
    · rw [cg3 cn cc] at h4 ⊢
      have ht := h4.total
      rw [su2, Int.add_zero] at ht
      simp only at h4 ⊢
      have dc : decide (cap < n) = false := by simpa using cc
      by_cases cm : m < 0 ∨ n < m
      · have fin : ∀ w : Bool, w = true → True := fun _ _ => trivial
        by_cases c2 : m < 0
        · have d2 : decide (m < 0) = true := by simpa using c2
          simp (config := {maxSteps := 4000000}) only [U_law13_LedgerBack, d2, reduceIte, reduceCtorEq, Nat.reduceEqDiff, Nat.reduceAdd, Int.reduceLT, Int.reduceLE, Int.reduceNeg, Int.reduceEq, Nat.reduceLT, Nat.reduceSub, Nat.reduceMul, Nat.reduceBEq, Nat.reduceLeDiff, Int.reduceBEq, Int.reduceBNe, Int.reduceToNat, ne_eq, implies_true, bA]
          refine callM (h4.credit 3 m) ?_
          rintro r o5 ⟨rfl, fp5, h5, _⟩
          rw [cr1 cm] at h5 ⊢
          have ht := h5.total
          rw [su2, Int.add_zero] at ht
          simp (config := {maxSteps := 4000000}) only [U_law13_LedgerBack, reduceIte, reduceCtorEq, Nat.reduceEqDiff, Nat.reduceAdd, Int.reduceLT, Int.reduceLE, Int.reduceNeg, Int.reduceEq, Nat.reduceLT, Nat.reduceSub, Nat.reduceMul, Nat.reduceBEq, Nat.reduceLeDiff, Int.reduceBEq, Int.reduceBNe, Int.reduceToNat, ne_eq, implies_true, bA]
          refine callR ht ?_
          simp (config := {maxSteps := 4000000}) only [U_law13_LedgerBack, eqS, reduceIte, reduceCtorEq, Nat.reduceEqDiff, Nat.reduceAdd, Int.reduceLT, Int.reduceLE, Int.reduceNeg, Int.reduceEq, Nat.reduceLT, Nat.reduceSub, Nat.reduceMul, Nat.reduceBEq, Nat.reduceLeDiff, Int.reduceBEq, Int.reduceBNe, Int.reduceToNat, ne_eq, implies_true, bA]
        · have d2 : decide (m < 0) = false := by simpa using c2
          have d3 : decide (n < m) = true := by simp; omega
          simp (config := {maxSteps := 4000000}) only [U_law13_LedgerBack, d2, d3, reduceIte, reduceCtorEq, Nat.reduceEqDiff, Nat.reduceAdd, Int.reduceLT, Int.reduceLE, Int.reduceNeg, Int.reduceEq, Nat.reduceLT, Nat.reduceSub, Nat.reduceMul, Nat.reduceBEq, Nat.reduceLeDiff, Int.reduceBEq, Int.reduceBNe, Int.reduceToNat, ne_eq, implies_true, bA]
          refine callM (h4.credit 3 m) ?_
          rintro r o5 ⟨rfl, fp5, h5, _⟩
          rw [cr1 cm] at h5 ⊢
          have ht := h5.total
          rw [su2, Int.add_zero] at ht
          simp (config := {maxSteps := 4000000}) only [U_law13_LedgerBack, reduceIte, reduceCtorEq, Nat.reduceEqDiff, Nat.reduceAdd, Int.reduceLT, Int.reduceLE, Int.reduceNeg, Int.reduceEq, Nat.reduceLT, Nat.reduceSub, Nat.reduceMul, Nat.reduceBEq, Nat.reduceLeDiff, Int.reduceBEq, Int.reduceBNe, Int.reduceToNat, ne_eq, implies_true, bA]
          refine callR ht ?_
          simp (config := {maxSteps := 4000000}) only [U_law13_LedgerBack, eqS, reduceIte, reduceCtorEq, Nat.reduceEqDiff, Nat.reduceAdd, Int.reduceLT, Int.reduceLE, Int.reduceNeg, Int.reduceEq, Nat.reduceLT, Nat.reduceSub, Nat.reduceMul, Nat.reduceBEq, Nat.reduceLeDiff, Int.reduceBEq, Int.reduceBNe, Int.reduceToNat, ne_eq, implies_true, bA]
      · have c2 : ¬ m < 0 := by omega
        have c3 : ¬ n < m := by omega
        have d2 : decide (m < 0) = false := by simpa using c2
        have d3 : decide (n < m) = false := by simp; omega
        have e1 : IntKind.i64.wrap (n - m) = n - m := wrapI (by omega) (by omega)
        simp (config := {maxSteps := 4000000}) only [U_law13_LedgerBack, d2, d3, reduceIte, reduceCtorEq, Nat.reduceEqDiff, Nat.reduceAdd, Int.reduceLT, Int.reduceLE, Int.reduceNeg, Int.reduceEq, Nat.reduceLT, Nat.reduceSub, Nat.reduceMul, Nat.reduceBEq, Nat.reduceLeDiff, Int.reduceBEq, Int.reduceBNe, Int.reduceToNat, ne_eq, implies_true, bA]
        refine callM (h4.credit 3 m) ?_
        rintro r o5 ⟨rfl, fp5, h5, _⟩
        rw [cr2 c2 c3] at h5 ⊢
        have ht := h5.total
        rw [su2, Int.add_zero] at ht
        simp (config := {maxSteps := 4000000}) only [U_law13_LedgerBack, reduceIte, reduceCtorEq, Nat.reduceEqDiff, Nat.reduceAdd, Int.reduceLT, Int.reduceLE, Int.reduceNeg, Int.reduceEq, Nat.reduceLT, Nat.reduceSub, Nat.reduceMul, Nat.reduceBEq, Nat.reduceLeDiff, Int.reduceBEq, Int.reduceBNe, Int.reduceToNat, ne_eq, implies_true, bA]
        refine callR ht ?_
        simp (config := {maxSteps := 4000000}) only [U_law13_LedgerBack, e1, neS, reduceIte, reduceCtorEq, Nat.reduceEqDiff, Nat.reduceAdd, Int.reduceLT, Int.reduceLE, Int.reduceNeg, Int.reduceEq, Nat.reduceLT, Nat.reduceSub, Nat.reduceMul, Nat.reduceBEq, Nat.reduceLeDiff, Int.reduceBEq, Int.reduceBNe, Int.reduceToNat, ne_eq, implies_true, bA]
        refine callM (h5.charge 8 m) ?_
        rintro r o6 ⟨rfl, fp6, h6, _⟩
        simp only at h6 ⊢
        rw [cg4 c2 cc] at h6 ⊢
        have ht := h6.total
        rw [su2, show n - m + m = n by omega] at ht
        have ho3 := h6.of 3
        have ho8 := h6.of 8
        simp only [of3, of8] at ho3 ho8
        simp (config := {maxSteps := 4000000}) only [U_law13_LedgerBack, reduceIte, reduceCtorEq, Nat.reduceEqDiff, Nat.reduceAdd, Int.reduceLT, Int.reduceLE, Int.reduceNeg, Int.reduceEq, Nat.reduceLT, Nat.reduceSub, Nat.reduceMul, Nat.reduceBEq, Nat.reduceLeDiff, Int.reduceBEq, Int.reduceBNe, Int.reduceToNat, ne_eq, implies_true, bA]
        refine callR ht ?_
        simp (config := {maxSteps := 4000000}) only [U_law13_LedgerBack, neS, reduceIte, reduceCtorEq, Nat.reduceEqDiff, Nat.reduceAdd, Int.reduceLT, Int.reduceLE, Int.reduceNeg, Int.reduceEq, Nat.reduceLT, Nat.reduceSub, Nat.reduceMul, Nat.reduceBEq, Nat.reduceLeDiff, Int.reduceBEq, Int.reduceBNe, Int.reduceToNat, ne_eq, implies_true, bA]
        refine callR ho3 ?_
        simp (config := {maxSteps := 4000000}) only [U_law13_LedgerBack, reduceIte, reduceCtorEq, Nat.reduceEqDiff, Nat.reduceAdd, Int.reduceLT, Int.reduceLE, Int.reduceNeg, Int.reduceEq, Nat.reduceLT, Nat.reduceSub, Nat.reduceMul, Nat.reduceBEq, Nat.reduceLeDiff, Int.reduceBEq, Int.reduceBNe, Int.reduceToNat, ne_eq, implies_true, bA]
        refine callR ho8 ?_
        simp (config := {maxSteps := 4000000}) only [U_law13_LedgerBack, reduceIte, reduceCtorEq, Nat.reduceEqDiff, Nat.reduceAdd, Int.reduceLT, Int.reduceLE, Int.reduceNeg, Int.reduceEq, Nat.reduceLT, Nat.reduceSub, Nat.reduceMul, Nat.reduceBEq, Nat.reduceLeDiff, Int.reduceBEq, Int.reduceBNe, Int.reduceToNat, ne_eq, implies_true, bA]
        refine callM (h6.close 8) ?_
        rintro r o7 ⟨rfl, fp7, h7, _⟩
        simp only at h7 ⊢
        rw [cl8] at h7 ⊢
        have ht := h7.total
        rw [su1] at ht
        simp (config := {maxSteps := 4000000}) only [U_law13_LedgerBack, e1, eqS, reduceIte, reduceCtorEq, Nat.reduceEqDiff, Nat.reduceAdd, Int.reduceLT, Int.reduceLE, Int.reduceNeg, Int.reduceEq, Nat.reduceLT, Nat.reduceSub, Nat.reduceMul, Nat.reduceBEq, Nat.reduceLeDiff, Int.reduceBEq, Int.reduceBNe, Int.reduceToNat, ne_eq, implies_true, bA]
        refine callR ht ?_
        simp (config := {maxSteps := 4000000}) only [U_law13_LedgerBack, e1, eqS, reduceIte, reduceCtorEq, Nat.reduceEqDiff, Nat.reduceAdd, Int.reduceLT, Int.reduceLE, Int.reduceNeg, Int.reduceEq, Nat.reduceLT, Nat.reduceSub, Nat.reduceMul, Nat.reduceBEq, Nat.reduceLeDiff, Int.reduceBEq, Int.reduceBNe, Int.reduceToNat, ne_eq, implies_true, bA]

def manyA (f : Int) (i : Nat) : List Acc := (List.range i).map fun (j : Nat) => ⟨f + 3 * (j : Int), (j : Int), 0⟩
theorem getA_no {id : Int} : ∀ {A : List Acc}, (∀ a ∈ A, a.id ≠ id) → getA id A = none
  | [], _ => rfl
  | a :: r, h => by rw [getA, if_neg (h a (by simp)), getA_no fun b hb => h b (List.mem_cons_of_mem _ hb)]
theorem insA_end {x : Acc} : ∀ {A : List Acc}, (∀ a ∈ A, a.id < x.id) → insA x A = A ++ [x]
  | [], _ => rfl
  | a :: r, h => by
    have := h a (by simp)
    rw [insA, if_neg (by omega), insA_end fun b hb => h b (List.mem_cons_of_mem _ hb)]; rfl
theorem manyA_len (f : Int) (i : Nat) : (manyA f i).length = i := by simp [manyA]
theorem manyA_succ (f : Int) (i : Nat) : manyA f (i + 1) = manyA f i ++ [⟨f + 3 * (i : Int), (i : Int), 0⟩] := by simp [manyA, List.range_succ]
theorem mem_manyA {f : Int} {i : Nat} {a : Acc} : a ∈ manyA f i ↔ ∃ j, j < i ∧ a = ⟨f + 3 * (j : Int), (j : Int), 0⟩ := by
  simp only [manyA, List.mem_map, List.mem_range]
  exact ⟨fun ⟨j, h, e⟩ => ⟨j, h, e.symm⟩, fun ⟨j, h, e⟩ => ⟨j, h, e.symm⟩⟩
theorem many_open (f : Int) (i : Nat) (h1 : 1 ≤ f) (h2 : f ≤ 1000) (hi : i < 8) : openS (manyA f i) (f + 3 * (i : Int)) (i : Int) = (manyA f (i + 1), 0) := by
  have hg : getA (f + 3 * (i : Int)) (manyA f i) = none := getA_no fun a ha => by
    obtain ⟨j, hj, rfl⟩ := mem_manyA.1 ha; simp only; omega
  have hins : insA ⟨f + 3 * (i : Int), (i : Int), 0⟩ (manyA f i) = manyA f (i + 1) := by
    rw [manyA_succ, insA_end]; intro a ha; obtain ⟨j, hj, rfl⟩ := mem_manyA.1 ha; simp only; omega
  rw [openS, if_neg (by omega), hg]
  simp only
  rw [if_neg (by rw [manyA_len]; omega), hins]
theorem many_no (f : Int) : getA (f + 1) (manyA f 8) = none := getA_no fun a ha => by
  obtain ⟨j, hj, rfl⟩ := mem_manyA.1 ha; simp only; omega
theorem many_close (f : Int) : closeS (manyA f 8) (f + 1) = (manyA f 8, 0, 4) := by rw [closeS, many_no]
theorem many_full (f : Int) (h1 : 1 ≤ f) (h2 : f ≤ 1000) : openS (manyA f 8) (f + 1) 0 = (manyA f 8, 70) := by
  rw [openS, if_neg (by omega), many_no]
  simp only
  rw [if_pos (by rw [manyA_len]; omega)]
theorem many_there (f k : Int) (h1 : 1 ≤ f) (h2 : f ≤ 1000) (k1 : 0 ≤ k) (k2 : k < 8) (hs : SortedA (manyA f 8)) : getA (f + 3 * k) (manyA f 8) = some ⟨f + 3 * k, k, 0⟩ := by
  have hm : (⟨f + 3 * k, k, 0⟩ : Acc) ∈ manyA f 8 := mem_manyA.2 ⟨k.toNat, by omega, by rw [Int.toNat_of_nonneg k1]⟩
  exact getA_mem hs hm
theorem ring3 (f M : Int) (hM : 0 < M) : ∃ T U, f.tmod M + M = T ∧ T.tmod M = U ∧ 0 ≤ U ∧ U < M ∧ 0 < T ∧ T < 2 * M := by
  have h1 := Int.tmod_lt_of_pos f hM
  have h2 := Int.lt_tmod_of_pos f hM
  exact ⟨_, _, rfl, rfl, Int.tmod_nonneg _ (by omega), Int.tmod_lt_of_pos _ hM, by omega, by omega⟩
theorem many_law (f c : Int) : PCall Try.prog 4 [.int .i64 f, .int .i64 c] (.bool true) := by
  refine pcall_dr Try.func4 comp_law13_LedgerMany ?_
  simp (config := {maxSteps := 4000000}) only [U_law13_LedgerMany, reduceIte, reduceCtorEq, Nat.reduceEqDiff, Nat.reduceAdd, Int.reduceLT, Int.reduceLE, Int.reduceNeg, Int.reduceEq, Nat.reduceLT, Nat.reduceSub, Nat.reduceMul, Nat.reduceBEq, Nat.reduceLeDiff, Int.reduceBEq, Int.reduceBNe, Int.reduceToNat, ne_eq, implies_true, bA]
  refine callM (new_i [] 9 (by omega)) ?_
  rintro r o1 ⟨fp1, rfl, h1, hf1⟩
  generalize ([] : List AObj).length + 1 = b at h1 ⊢
  rw [show max (9 : Int) 0 = 9 by decide] at h1
  simp (config := {maxSteps := 4000000}) only [U_law13_LedgerMany, reduceIte, reduceCtorEq, Nat.reduceEqDiff, Nat.reduceAdd, Int.reduceLT, Int.reduceLE, Int.reduceNeg, Int.reduceEq, Nat.reduceLT, Nat.reduceSub, Nat.reduceMul, Nat.reduceBEq, Nat.reduceLeDiff, Int.reduceBEq, Int.reduceBNe, Int.reduceToNat, ne_eq, implies_true, bA]
  refine callI awake13_spec ?_
  obtain ⟨T, U, hT, hU, u0, u1, t0, t1⟩ := ring3 f 1000 (by omega)
  obtain ⟨T2, k, hT2, hk, k0, k1, s0, s1⟩ := ring3 c 8 (by omega)
  obtain ⟨F, hF⟩ : ∃ F, 1 + U = F := ⟨_, rfl⟩
  have e1 : IntKind.i64.wrap T = T := wrapI (by omega) (by omega)
  have e2 : IntKind.i64.wrap F = F := wrapI (by omega) (by omega)
  have e3 : IntKind.i64.wrap T2 = T2 := wrapI (by omega) (by omega)
  have f1 : 1 ≤ F := by omega
  have f2 : F ≤ 1000 := by omega
  have e4 : IntKind.i64.wrap (3 * k) = 3 * k := wrapI (by omega) (by omega)
  have e5 : IntKind.i64.wrap (F + 3 * k) = F + 3 * k := wrapI (by omega) (by omega)
  have e6 : IntKind.i64.wrap (F + 1) = F + 1 := wrapI (by omega) (by omega)
  simp (config := {maxSteps := 4000000}) only [U_law13_LedgerMany, hT, hU, hF, e1, e2, reduceIte, reduceCtorEq, Nat.reduceEqDiff, Nat.reduceAdd, Int.reduceLT, Int.reduceLE, Int.reduceNeg, Int.reduceEq, Nat.reduceLT, Nat.reduceSub, Nat.reduceMul, Nat.reduceBEq, Nat.reduceLeDiff, Int.reduceBEq, Int.reduceBNe, Int.reduceToNat, ne_eq, implies_true, bA]
  refine loopF (fun x : List AObj × List Nat × Nat => ⟨ofL [(0, .int .i64 F), (1, .int .i64 c), (5, .ref b 0), (6, .int .i64 (x.2.2 : Int))], x.1⟩)
    (fun x => Led x.1 x.2.1 b 9 (manyA F x.2.2) ∧ x.2.2 ≤ 8) (fun x => 8 - x.2.2) (o1, fp1, 0) ?_ ⟨h1, Nat.zero_le _⟩ ?_
  · simp (config := {maxSteps := 4000000}) only [U_law13_LedgerMany, hT, hU, hF, e1, e2, reduceIte, reduceCtorEq, Nat.reduceEqDiff, Nat.reduceAdd, Int.reduceLT, Int.reduceLE, Int.reduceNeg, Int.reduceEq, Nat.reduceLT, Nat.reduceSub, Nat.reduceMul, Nat.reduceBEq, Nat.reduceLeDiff, Int.reduceBEq, Int.reduceBNe, Int.reduceToNat, ne_eq, implies_true, bA]
    all_goals rfl
  · rintro ⟨ob, fp, i⟩ ⟨hL, h8⟩
    simp only at hL h8
    by_cases hlt : i < 8
    · have d : decide ((i : Int) < 8) = true := by simp; omega
      have w1 : IntKind.i64.wrap (3 * (i : Int)) = 3 * (i : Int) := wrapI (by omega) (by omega)
      have w2 : IntKind.i64.wrap (F + 3 * (i : Int)) = F + 3 * (i : Int) := wrapI (by omega) (by omega)
      have w3 : IntKind.i64.wrap ((i : Int) + 1) = ((i + 1 : Nat) : Int) := by rw [wrapI (by omega) (by omega)]; omega
      simp (config := {maxSteps := 4000000}) only [U_law13_LedgerMany, d, w1, w2, reduceIte, reduceCtorEq, Nat.reduceEqDiff, Nat.reduceAdd, Int.reduceLT, Int.reduceLE, Int.reduceNeg, Int.reduceEq, Nat.reduceLT, Nat.reduceSub, Nat.reduceMul, Nat.reduceBEq, Nat.reduceLeDiff, Int.reduceBEq, Int.reduceBNe, Int.reduceToNat, ne_eq, implies_true, bA]
      refine callM (hL.open _ _) ?_
      rintro r o2 ⟨rfl, fp2, h2, _⟩
      rw [many_open F i f1 f2 hlt] at h2 ⊢
      simp only at h2
      simp (config := {maxSteps := 4000000}) only [U_law13_LedgerMany, w3, reduceIte, reduceCtorEq, Nat.reduceEqDiff, Nat.reduceAdd, Int.reduceLT, Int.reduceLE, Int.reduceNeg, Int.reduceEq, Nat.reduceLT, Nat.reduceSub, Nat.reduceMul, Nat.reduceBEq, Nat.reduceLeDiff, Int.reduceBEq, Int.reduceBNe, Int.reduceToNat, ne_eq, implies_true, bA]
      exact ⟨(o2, fp2, i + 1), rfl, ⟨h2, hlt⟩, by simp only; omega⟩
    · obtain rfl : i = 8 := by omega
      have d : decide (((8 : Nat) : Int) < 8) = false := by decide
      have hs := hL.ok.srt
      have hth := many_there F k f1 f2 k0 k1 hs
      simp (config := {maxSteps := 4000000}) only [U_law13_LedgerMany, d, hT2, hk, e3, e4, e5, e6, reduceIte, reduceCtorEq, Nat.reduceEqDiff, Nat.reduceAdd, Int.reduceLT, Int.reduceLE, Int.reduceNeg, Int.reduceEq, Nat.reduceLT, Nat.reduceSub, Nat.reduceMul, Nat.reduceBEq, Nat.reduceLeDiff, Int.reduceBEq, Int.reduceBNe, Int.reduceToNat, ne_eq, implies_true, bA]
      refine callM (hL.close _) ?_
      rintro r o2 ⟨rfl, fp2, h2, _⟩
      rw [many_close F] at h2 ⊢
      simp only at h2
      simp (config := {maxSteps := 4000000}) only [U_law13_LedgerMany, e6, reduceIte, reduceCtorEq, Nat.reduceEqDiff, Nat.reduceAdd, Int.reduceLT, Int.reduceLE, Int.reduceNeg, Int.reduceEq, Nat.reduceLT, Nat.reduceSub, Nat.reduceMul, Nat.reduceBEq, Nat.reduceLeDiff, Int.reduceBEq, Int.reduceBNe, Int.reduceToNat, ne_eq, implies_true, bA]
      refine callM (h2.open _ _) ?_
      rintro r o3 ⟨rfl, fp3, h3, _⟩
      rw [many_full F f1 f2] at h3 ⊢
      simp only at h3
      simp (config := {maxSteps := 4000000}) only [U_law13_LedgerMany, e6, reduceIte, reduceCtorEq, Nat.reduceEqDiff, Nat.reduceAdd, Int.reduceLT, Int.reduceLE, Int.reduceNeg, Int.reduceEq, Nat.reduceLT, Nat.reduceSub, Nat.reduceMul, Nat.reduceBEq, Nat.reduceLeDiff, Int.reduceBEq, Int.reduceBNe, Int.reduceToNat, ne_eq, implies_true, bA]
      refine callM (h3.open _ _) ?_
      rintro r o4 ⟨rfl, fp4, h4, _⟩
      rw [show openS (manyA F 8) (F + 3 * k) 0 = (manyA F 8, 7) by rw [openS, if_neg (by omega), hth]] at h4 ⊢
      simp only at h4
      simp (config := {maxSteps := 4000000}) only [U_law13_LedgerMany, e6, reduceIte, reduceCtorEq, Nat.reduceEqDiff, Nat.reduceAdd, Int.reduceLT, Int.reduceLE, Int.reduceNeg, Int.reduceEq, Nat.reduceLT, Nat.reduceSub, Nat.reduceMul, Nat.reduceBEq, Nat.reduceLeDiff, Int.reduceBEq, Int.reduceBNe, Int.reduceToNat, ne_eq, implies_true, bA]
      refine callM (h4.close _) ?_
      rintro r o5 ⟨rfl, fp5, h5, _⟩
      rw [show closeS (manyA F 8) (F + 3 * k) = (delA (F + 3 * k) (manyA F 8), 0, 0) by rw [closeS, hth]] at h5 ⊢
      simp only at h5
      have hdl : (delA (F + 3 * k) (manyA F 8)).length + 1 = 8 := by
        have := delA_len hs (getA_some hth).1
        rw [manyA_len] at this; exact this
      have hgd : getA (F + 1) (delA (F + 3 * k) (manyA F 8)) = none := getA_no fun a ha => by
        obtain ⟨j, hj, rfl⟩ := mem_manyA.1 (mem_delA.1 ha).1; simp only; omega
      simp (config := {maxSteps := 4000000}) only [U_law13_LedgerMany, e6, reduceIte, reduceCtorEq, Nat.reduceEqDiff, Nat.reduceAdd, Int.reduceLT, Int.reduceLE, Int.reduceNeg, Int.reduceEq, Nat.reduceLT, Nat.reduceSub, Nat.reduceMul, Nat.reduceBEq, Nat.reduceLeDiff, Int.reduceBEq, Int.reduceBNe, Int.reduceToNat, ne_eq, implies_true, bA]
      refine callM (h5.open _ _) ?_
      rintro r o6 ⟨rfl, fp6, h6, _⟩
      rw [show openS (delA (F + 3 * k) (manyA F 8)) (F + 1) 0 = (insA ⟨F + 1, 0, 0⟩ (delA (F + 3 * k) (manyA F 8)), 0) by
        rw [openS, if_neg (by omega), hgd]; simp only; rw [if_neg (by omega)]] at h6 ⊢
      simp only at h6
      have h8l : (insA ⟨F + 1, 0, 0⟩ (delA (F + 3 * k) (manyA F 8))).length = 8 := by rw [insA_len]; exact hdl
      generalize insA ⟨F + 1, 0, 0⟩ (delA (F + 3 * k) (manyA F 8)) = B at h6 h8l ⊢
      simp (config := {maxSteps := 4000000}) only [U_law13_LedgerMany, e6, reduceIte, reduceCtorEq, Nat.reduceEqDiff, Nat.reduceAdd, Int.reduceLT, Int.reduceLE, Int.reduceNeg, Int.reduceEq, Nat.reduceLT, Nat.reduceSub, Nat.reduceMul, Nat.reduceBEq, Nat.reduceLeDiff, Int.reduceBEq, Int.reduceBNe, Int.reduceToNat, ne_eq, implies_true, bA]
      refine callM h6.ids ?_
      rintro r o7 ⟨n7, rfl, hn7, _⟩
      have hl7 : (rowsZ .i64 (B.map (·.id))).length = B.length := by simp [rowsZ]
      have hr7 : rowsO (some (AObj.list 1 (rowsZ .i64 (B.map (·.id))))) 0 8 = some (rowsZ .i64 (B.map (·.id))) := rowsO_all (by rw [hl7, h8l])
      have hrl7 : ((rowsZ .i64 (B.map (·.id))).length : Int) = 8 := by rw [hl7, h8l]; rfl
      simp (config := {maxSteps := 4000000}) only [U_law13_LedgerMany, hn7, hr7, hrl7, h8l, reduceIte, reduceCtorEq, Nat.reduceEqDiff, Nat.reduceAdd, Int.reduceLT, Int.reduceLE, Int.reduceNeg, Int.reduceEq, Nat.reduceLT, Nat.reduceSub, Nat.reduceMul, Nat.reduceBEq, Nat.reduceLeDiff, Int.reduceBEq, Int.reduceBNe, Int.reduceToNat, ne_eq, implies_true, bA]


theorem pg1 (cap s n : Int) (h0 : 0 ≤ n) : chargeS cap [⟨1, 9, s⟩] 1 n = if cap - s < n then ([⟨1, 9, s⟩], 71) else ([⟨1, 9, s + n⟩], 0) := by
  have : ¬ n < 0 := by omega
  simp [chargeS, this, getA, sumA, insA, delA]
theorem su9 (a : Int) : sumA [⟨1, 9, a⟩] = a := by simp [sumA]
theorem parts_law (c : Int) (P : List Nat) (hc : c ≤ 9223372036854775807) (hP : ∀ x ∈ P, x < 256) : PCall Try.prog 3 [.int .i64 c, .slc (rowsN .u8 P)] (.bool true) := by
  refine pcall_dr Try.func3 comp_law13_LedgerParts ?_
  obtain ⟨cap, hcap⟩ : ∃ cap, max c 0 = cap := ⟨_, rfl⟩
  simp (config := {maxSteps := 4000000}) only [U_law13_LedgerParts, reduceIte, reduceCtorEq, Nat.reduceEqDiff, Nat.reduceAdd, Int.reduceLT, Int.reduceLE, Int.reduceNeg, Int.reduceEq, Nat.reduceLT, Nat.reduceSub, Nat.reduceMul, Nat.reduceBEq, Nat.reduceLeDiff, Int.reduceBEq, Int.reduceBNe, Int.reduceToNat, ne_eq, implies_true, bA]
  refine callM (new_i [] c hc) ?_
  rintro r o1 ⟨fp1, rfl, h1, hf1⟩
  generalize ([] : List AObj).length + 1 = bx at h1 ⊢
  rw [hcap] at h1
  simp (config := {maxSteps := 4000000}) only [U_law13_LedgerParts, reduceIte, reduceCtorEq, Nat.reduceEqDiff, Nat.reduceAdd, Int.reduceLT, Int.reduceLE, Int.reduceNeg, Int.reduceEq, Nat.reduceLT, Nat.reduceSub, Nat.reduceMul, Nat.reduceBEq, Nat.reduceLeDiff, Int.reduceBEq, Int.reduceBNe, Int.reduceToNat, ne_eq, implies_true, bA]
  refine callM (new_i o1 c hc) ?_
  rintro r o2 ⟨fq2, rfl, g2, hf2⟩
  obtain ⟨h2, dj2⟩ := h1.frame (fun i _ => by simp) hf2
  generalize o1.length + 1 = by9 at g2 ⊢
  rw [hcap] at g2
  simp (config := {maxSteps := 4000000}) only [U_law13_LedgerParts, reduceIte, reduceCtorEq, Nat.reduceEqDiff, Nat.reduceAdd, Int.reduceLT, Int.reduceLE, Int.reduceNeg, Int.reduceEq, Nat.reduceLT, Nat.reduceSub, Nat.reduceMul, Nat.reduceBEq, Nat.reduceLeDiff, Int.reduceBEq, Int.reduceBNe, Int.reduceToNat, ne_eq, implies_true, bA]
  refine callI awake13_spec ?_
  simp (config := {maxSteps := 4000000}) only [U_law13_LedgerParts, reduceIte, reduceCtorEq, Nat.reduceEqDiff, Nat.reduceAdd, Int.reduceLT, Int.reduceLE, Int.reduceNeg, Int.reduceEq, Nat.reduceLT, Nat.reduceSub, Nat.reduceMul, Nat.reduceBEq, Nat.reduceLeDiff, Int.reduceBEq, Int.reduceBNe, Int.reduceToNat, ne_eq, implies_true, bA]
  refine callM (h2.open 1 9) ?_
  rintro r o3 ⟨rfl, fp3, h3, hf3⟩
  obtain ⟨g3, dj3⟩ := g2.frame (fun i hi hi2 => dj2 i hi2 hi) hf3
  rw [show openS [] 1 9 = ([⟨1, 9, 0⟩], 0) by decide] at h3 ⊢
  simp only at h3
  simp (config := {maxSteps := 4000000}) only [U_law13_LedgerParts, reduceIte, reduceCtorEq, Nat.reduceEqDiff, Nat.reduceAdd, Int.reduceLT, Int.reduceLE, Int.reduceNeg, Int.reduceEq, Nat.reduceLT, Nat.reduceSub, Nat.reduceMul, Nat.reduceBEq, Nat.reduceLeDiff, Int.reduceBEq, Int.reduceBNe, Int.reduceToNat, ne_eq, implies_true, bA]
  refine callM (g3.open 1 9) ?_
  rintro r o4 ⟨rfl, fq4, g4, hf4⟩
  obtain ⟨h4, dj4⟩ := h3.frame (fun i hi hi2 => dj3 i hi2 hi) hf4
  rw [show openS [] 1 9 = ([⟨1, 9, 0⟩], 0) by decide] at g4 ⊢
  simp only at g4
  simp (config := {maxSteps := 4000000}) only [U_law13_LedgerParts, reduceIte, reduceCtorEq, Nat.reduceEqDiff, Nat.reduceAdd, Int.reduceLT, Int.reduceLE, Int.reduceNeg, Int.reduceEq, Nat.reduceLT, Nat.reduceSub, Nat.reduceMul, Nat.reduceBEq, Nat.reduceLeDiff, Int.reduceBEq, Int.reduceBNe, Int.reduceToNat, ne_eq, implies_true, bA]
  refine loopF (fun x : List AObj × List Nat × Int × Nat => ⟨ofL [(0, .int .i64 c), (1, .slc (rowsN .u8 P)), (5, .ref bx 0), (6, .ref by9 0), (7, .int .i64 x.2.2.1), (8, .int .i64 (x.2.2.2 : Int))], x.1⟩)
    (fun x => Led x.1 x.2.1 bx cap [⟨1, 9, x.2.2.1⟩] ∧ Led x.1 fq4 by9 cap [⟨1, 9, 0⟩] ∧ (∀ i ∈ fq4, i ∉ x.2.1)) (fun x => P.length - x.2.2.2) (o4, fp3, 0, 0) ?_ ⟨h4, g4, fun i hi hi2 => dj4 i hi2 hi⟩ ?_
  · simp (config := {maxSteps := 4000000}) only [U_law13_LedgerParts, reduceIte, reduceCtorEq, Nat.reduceEqDiff, Nat.reduceAdd, Int.reduceLT, Int.reduceLE, Int.reduceNeg, Int.reduceEq, Nat.reduceLT, Nat.reduceSub, Nat.reduceMul, Nat.reduceBEq, Nat.reduceLeDiff, Int.reduceBEq, Int.reduceBNe, Int.reduceToNat, ne_eq, implies_true, bA]
    all_goals rfl
  · rintro ⟨ob, fp, s, i⟩ ⟨hL, gL, hdj⟩
    simp only at hL gL hdj
    have s0 : 0 ≤ s := hL.ok.use _ (List.mem_singleton.2 rfl)
    have s1 : s ≤ cap := by have := hL.ok.sum; rw [su9] at this; exact this
    have c0 := hL.ok.c0
    have c1 := hL.ok.c1
    have hend : ∀ w : Nat, True := fun _ => trivial
    by_cases hlt : i < P.length
    · have d : decide ((i : Int) < (P.length : Int)) = true := by simpa using hlt
      by_cases h2 : i < 100
      · have d2 : decide ((i : Int) < 100) = true := by simp; omega
        have e2 : IntKind.i64.wrap ((i : Int) + 1) = ((i + 1 : Nat) : Int) := by rw [wrapI (by omega) (by omega)]; omega
        have isl := fun ob fb => islV_N (ob := ob) (fb := fb) (k := .i64) (k' := .u8) hlt
        have tm : ((P[i] : Nat) : Int).tmod 100 = ((P[i] % 100 : Nat) : Int) := tmodN _ 100
        obtain ⟨n, hn⟩ : ∃ n : Nat, P[i] % 100 = n := ⟨_, rfl⟩
        have hn1 : n < 100 := by omega
        rw [hn] at tm
        have cv : IntKind.i64.wrap (n : Int) = (n : Int) := wrapI (by omega) (by omega)
        have e1 : IntKind.i64.wrap (cap - s) = cap - s := wrapI (by omega) (by omega)
        simp (config := {maxSteps := 4000000}) only [U_law13_LedgerParts, d, d2, isl, tm, cv, reduceIte, reduceCtorEq, Nat.reduceEqDiff, Nat.reduceAdd, Int.reduceLT, Int.reduceLE, Int.reduceNeg, Int.reduceEq, Nat.reduceLT, Nat.reduceSub, Nat.reduceMul, Nat.reduceBEq, Nat.reduceLeDiff, Int.reduceBEq, Int.reduceBNe, Int.reduceToNat, ne_eq, implies_true, bA]
        refine callM (hL.charge 1 n) ?_
        rintro r o5 ⟨rfl, fp5, h5, hf5⟩
        obtain ⟨g5, dj5⟩ := gL.frame hdj hf5
        rw [pg1 cap s n (by omega)] at h5 ⊢
        by_cases hc2 : cap - s < n
        · have dc : decide ((n : Int) ≤ cap - s) = false := by simp; omega
          rw [if_pos hc2] at h5 ⊢
          simp only at h5
          simp (config := {maxSteps := 4000000}) only [U_law13_LedgerParts, hcap, e1, dc, e2, reduceIte, reduceCtorEq, Nat.reduceEqDiff, Nat.reduceAdd, Int.reduceLT, Int.reduceLE, Int.reduceNeg, Int.reduceEq, Nat.reduceLT, Nat.reduceSub, Nat.reduceMul, Nat.reduceBEq, Nat.reduceLeDiff, Int.reduceBEq, Int.reduceBNe, Int.reduceToNat, ne_eq, implies_true, bA]
          exact ⟨(o5, fp5, s, i + 1), rfl, ⟨h5, g5, dj5⟩, by simp only; omega⟩
        · have dc : decide ((n : Int) ≤ cap - s) = true := by simp; omega
          have e4 : IntKind.i64.wrap (s + (n : Int)) = s + (n : Int) := wrapI (by omega) (by omega)
          rw [if_neg hc2] at h5 ⊢
          simp only at h5
          simp (config := {maxSteps := 4000000}) only [U_law13_LedgerParts, hcap, e1, dc, e2, e4, reduceIte, reduceCtorEq, Nat.reduceEqDiff, Nat.reduceAdd, Int.reduceLT, Int.reduceLE, Int.reduceNeg, Int.reduceEq, Nat.reduceLT, Nat.reduceSub, Nat.reduceMul, Nat.reduceBEq, Nat.reduceLeDiff, Int.reduceBEq, Int.reduceBNe, Int.reduceToNat, ne_eq, implies_true, bA]
          exact ⟨(o5, fp5, s + n, i + 1), rfl, ⟨h5, g5, dj5⟩, by simp only; omega⟩
      · have d2 : decide ((i : Int) < 100) = false := by simp; omega
        simp (config := {maxSteps := 4000000}) only [U_law13_LedgerParts, d, d2, reduceIte, reduceCtorEq, Nat.reduceEqDiff, Nat.reduceAdd, Int.reduceLT, Int.reduceLE, Int.reduceNeg, Int.reduceEq, Nat.reduceLT, Nat.reduceSub, Nat.reduceMul, Nat.reduceBEq, Nat.reduceLeDiff, Int.reduceBEq, Int.reduceBNe, Int.reduceToNat, ne_eq, implies_true, bA]
        refine callM (gL.charge 1 s) ?_
        rintro r o5 ⟨rfl, fq5, g5, hf5⟩
        obtain ⟨h5, _⟩ := hL.frame (fun i hi hi2 => hdj i hi2 hi) hf5
        rw [pg1 cap 0 s s0, if_neg (by omega), Int.zero_add] at g5 ⊢
        simp only at g5
        have tx := h5.total
        have ty := g5.total
        have lx := h5.left
        have ly := g5.left
        rw [su9] at tx ty lx ly
        simp (config := {maxSteps := 4000000}) only [U_law13_LedgerParts, reduceIte, reduceCtorEq, Nat.reduceEqDiff, Nat.reduceAdd, Int.reduceLT, Int.reduceLE, Int.reduceNeg, Int.reduceEq, Nat.reduceLT, Nat.reduceSub, Nat.reduceMul, Nat.reduceBEq, Nat.reduceLeDiff, Int.reduceBEq, Int.reduceBNe, Int.reduceToNat, ne_eq, implies_true, bA]
        refine callR tx ?_
        simp (config := {maxSteps := 4000000}) only [U_law13_LedgerParts, eqS, reduceIte, reduceCtorEq, Nat.reduceEqDiff, Nat.reduceAdd, Int.reduceLT, Int.reduceLE, Int.reduceNeg, Int.reduceEq, Nat.reduceLT, Nat.reduceSub, Nat.reduceMul, Nat.reduceBEq, Nat.reduceLeDiff, Int.reduceBEq, Int.reduceBNe, Int.reduceToNat, ne_eq, implies_true, bA]
        refine callR ty ?_
        simp (config := {maxSteps := 4000000}) only [U_law13_LedgerParts, eqS, reduceIte, reduceCtorEq, Nat.reduceEqDiff, Nat.reduceAdd, Int.reduceLT, Int.reduceLE, Int.reduceNeg, Int.reduceEq, Nat.reduceLT, Nat.reduceSub, Nat.reduceMul, Nat.reduceBEq, Nat.reduceLeDiff, Int.reduceBEq, Int.reduceBNe, Int.reduceToNat, ne_eq, implies_true, bA]
        refine callR lx ?_
        refine callR ly ?_
        simp (config := {maxSteps := 4000000}) only [U_law13_LedgerParts, eqS, reduceIte, reduceCtorEq, Nat.reduceEqDiff, Nat.reduceAdd, Int.reduceLT, Int.reduceLE, Int.reduceNeg, Int.reduceEq, Nat.reduceLT, Nat.reduceSub, Nat.reduceMul, Nat.reduceBEq, Nat.reduceLeDiff, Int.reduceBEq, Int.reduceBNe, Int.reduceToNat, ne_eq, implies_true, bA]
    · have d : decide ((i : Int) < (P.length : Int)) = false := by simpa using hlt
      simp (config := {maxSteps := 4000000}) only [U_law13_LedgerParts, d, reduceIte, reduceCtorEq, Nat.reduceEqDiff, Nat.reduceAdd, Int.reduceLT, Int.reduceLE, Int.reduceNeg, Int.reduceEq, Nat.reduceLT, Nat.reduceSub, Nat.reduceMul, Nat.reduceBEq, Nat.reduceLeDiff, Int.reduceBEq, Int.reduceBNe, Int.reduceToNat, ne_eq, implies_true, bA]
      refine callM (gL.charge 1 s) ?_
      rintro r o5 ⟨rfl, fq5, g5, hf5⟩
      obtain ⟨h5, _⟩ := hL.frame (fun i hi hi2 => hdj i hi2 hi) hf5
      rw [pg1 cap 0 s s0, if_neg (by omega), Int.zero_add] at g5 ⊢
      simp only at g5
      have tx := h5.total
      have ty := g5.total
      have lx := h5.left
      have ly := g5.left
      rw [su9] at tx ty lx ly
      simp (config := {maxSteps := 4000000}) only [U_law13_LedgerParts, reduceIte, reduceCtorEq, Nat.reduceEqDiff, Nat.reduceAdd, Int.reduceLT, Int.reduceLE, Int.reduceNeg, Int.reduceEq, Nat.reduceLT, Nat.reduceSub, Nat.reduceMul, Nat.reduceBEq, Nat.reduceLeDiff, Int.reduceBEq, Int.reduceBNe, Int.reduceToNat, ne_eq, implies_true, bA]
      refine callR tx ?_
      simp (config := {maxSteps := 4000000}) only [U_law13_LedgerParts, eqS, reduceIte, reduceCtorEq, Nat.reduceEqDiff, Nat.reduceAdd, Int.reduceLT, Int.reduceLE, Int.reduceNeg, Int.reduceEq, Nat.reduceLT, Nat.reduceSub, Nat.reduceMul, Nat.reduceBEq, Nat.reduceLeDiff, Int.reduceBEq, Int.reduceBNe, Int.reduceToNat, ne_eq, implies_true, bA]
      refine callR ty ?_
      simp (config := {maxSteps := 4000000}) only [U_law13_LedgerParts, eqS, reduceIte, reduceCtorEq, Nat.reduceEqDiff, Nat.reduceAdd, Int.reduceLT, Int.reduceLE, Int.reduceNeg, Int.reduceEq, Nat.reduceLT, Nat.reduceSub, Nat.reduceMul, Nat.reduceBEq, Nat.reduceLeDiff, Int.reduceBEq, Int.reduceBNe, Int.reduceToNat, ne_eq, implies_true, bA]
      refine callR lx ?_
      refine callR ly ?_
      simp (config := {maxSteps := 4000000}) only [U_law13_LedgerParts, eqS, reduceIte, reduceCtorEq, Nat.reduceEqDiff, Nat.reduceAdd, Int.reduceLT, Int.reduceLE, Int.reduceNeg, Int.reduceEq, Nat.reduceLT, Nat.reduceSub, Nat.reduceMul, Nat.reduceBEq, Nat.reduceLeDiff, Int.reduceBEq, Int.reduceBNe, Int.reduceToNat, ne_eq, implies_true, bA]

theorem rows_act : ∀ (rows : List (List PV)), (∀ r ∈ rows, (Sh.st [.int .i64, .int .i64, .int .i64]).fit r) → ∃ l : List (Int × Int × Int), rows = l.map act3
  | [], _ => ⟨[], rfl⟩
  | r :: rows, h => by
    obtain ⟨l, h1⟩ := rows_act rows fun x hx => h x (List.mem_cons_of_mem _ hx)
    obtain ⟨_, _, h3, ⟨x, rfl, _⟩, _, _, rfl, ⟨y, rfl, _⟩, _, _, rfl, ⟨z, rfl, hz⟩, rfl⟩ := h r (by simp)
    exact ⟨(x, y, z) :: l, by rw [h1, h3]; rfl⟩
theorem rows_u8 (rows : List (List PV)) (h : ∀ r ∈ rows, (Sh.int .u8).fit r) : ∃ l : List Nat, rows = rowsN .u8 l ∧ ∀ x ∈ l, x < 256 := by
  induction rows with
  | nil => exact ⟨[], rfl, fun _ h => by cases h⟩
  | cons r rows ih =>
    obtain ⟨l, h1, h2⟩ := ih fun x hx => h x (List.mem_cons_of_mem _ hx)
    obtain ⟨n, h3, h4⟩ := h r (by simp)
    have e0 : IntKind.u8.min = 0 := by decide
    have e1 : IntKind.u8.max = 255 := by decide
    simp only [Lit.wf, e0, e1, Bool.and_eq_true, decide_eq_true_eq] at h4
    refine ⟨n.toNat :: l, ?_, fun x hx => (List.mem_cons.1 hx).elim (fun e => by subst e; omega) (h2 x)⟩
    rw [h1, h3]
    simp only [rowsN, List.map_cons]
    rw [Int.toNat_of_nonneg h4.1]
theorem nil_fit (ps : List PV) (h : fitVs [.int .i64, .int .i64] ps) : PCall Try.prog 8 ps (.bool true) := by
  obtain ⟨_, _, rfl, ⟨a, ha, _⟩, _, _, rfl, ⟨b, hb, _⟩, rfl⟩ := h
  cases ha; cases hb
  exact nil_law a b
theorem many_fit (ps : List PV) (h : fitVs [.int .i64, .int .i64] ps) : PCall Try.prog 4 ps (.bool true) := by
  obtain ⟨_, _, rfl, ⟨a, ha, _⟩, _, _, rfl, ⟨b, hb, _⟩, rfl⟩ := h
  cases ha; cases hb
  exact many_law a b
theorem back_fit (ps : List PV) (h : fitVs [.int .i64, .int .i64, .int .i64] ps) : PCall Try.prog 6 ps (.bool true) := by
  obtain ⟨_, _, rfl, ⟨a, ha, wa⟩, _, _, rfl, ⟨b, hb, wb⟩, _, _, rfl, ⟨c, hc, wc⟩, rfl⟩ := h
  cases ha; cases hb; cases hc
  exact back_law a b c (bounds_i64 wa).2 (bounds_i64 wb).2 (bounds_i64 wc).2
theorem plays_fit (ps : List PV) (h : fitVs [.int .i64, .sl (.st [.int .i64, .int .i64, .int .i64])] ps) : PCall Try.prog 7 ps (.bool true) := by
  obtain ⟨_, _, rfl, ⟨a, ha, wa⟩, _, _, rfl, ⟨rows, hr, hl, hf⟩, rfl⟩ := h
  cases ha; cases hr
  obtain ⟨l, rfl⟩ := rows_act rows hf
  exact plays_law a l (bounds_i64 wa).2
theorem sums_fit (ps : List PV) (h : fitVs [.int .i64, .sl (.st [.int .i64, .int .i64, .int .i64])] ps) : PCall Try.prog 5 ps (.bool true) := by
  obtain ⟨_, _, rfl, ⟨a, ha, wa⟩, _, _, rfl, ⟨rows, hr, hl, hf⟩, rfl⟩ := h
  cases ha; cases hr
  obtain ⟨l, rfl⟩ := rows_act rows hf
  exact sums_law a l (bounds_i64 wa).2
theorem parts_fit (ps : List PV) (h : fitVs [.int .i64, .sl (.int .u8)] ps) : PCall Try.prog 3 ps (.bool true) := by
  obtain ⟨_, _, rfl, ⟨a, ha, wa⟩, _, _, rfl, ⟨rows, hr, hl, hf⟩, rfl⟩ := h
  cases ha; cases hr
  obtain ⟨l, rfl, hx⟩ := rows_u8 rows hf
  exact parts_law a l (bounds_i64 wa).2 hx
end Go.Proofs.Ytokpmpbhpafncaa.Aw
