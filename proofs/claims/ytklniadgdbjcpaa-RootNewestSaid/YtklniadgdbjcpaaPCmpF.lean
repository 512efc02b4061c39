/-
  Which of two pages with root records comes first.
-/
import Derived.Test.YtklniadgdbjcpaaPSwap
import Derived.Test.YtklniadgdbjcpaaPRoot3
set_option linter.unusedSimpArgs false
set_option linter.unusedVariables false
namespace Go.Proofs.Ytklniadgdbjcpaa.Aw
open Go.RowKit

theorem nan_spec (a : Int) : PCall Try.prog 46 [.int .i64 a] (.bool false) := by
  refine pcall_dr Try.func46 comp_cmp_isNaN_int ?_
  have d : ((a : Int) != a) = false := by simp
  simp (config := {maxSteps := 4000000}) only [U_cmp_isNaN_int, d, reduceIte, reduceCtorEq, Nat.reduceEqDiff, Nat.reduceAdd, Int.reduceLT, Int.reduceLE, Int.reduceNeg, Int.reduceEq, Nat.reduceLT, Nat.reduceSub, Nat.reduceMul, Nat.reduceBEq, Nat.reduceLeDiff, Int.reduceBEq, Int.reduceBNe, Int.reduceToNat, ne_eq, implies_true, bA]
def cmpZ (a b : Int) : Int := if a < b then -1 else if b < a then 1 else 0
theorem compare_spec (a b : Int) : PCall Try.prog 33 [.int .i64 a, .int .i64 b] (.int .i64 (cmpZ a b)) := by
  refine pcall_dr Try.func33 comp_cmp_Compare_int ?_
  simp (config := {maxSteps := 4000000}) only [U_cmp_Compare_int, reduceIte, reduceCtorEq, Nat.reduceEqDiff, Nat.reduceAdd, Int.reduceLT, Int.reduceLE, Int.reduceNeg, Int.reduceEq, Nat.reduceLT, Nat.reduceSub, Nat.reduceMul, Nat.reduceBEq, Nat.reduceLeDiff, Int.reduceBEq, Int.reduceBNe, Int.reduceToNat, ne_eq, implies_true, bA]
  refine callI (nan_spec a) ?_
  simp (config := {maxSteps := 4000000}) only [U_cmp_Compare_int, reduceIte, reduceCtorEq, Nat.reduceEqDiff, Nat.reduceAdd, Int.reduceLT, Int.reduceLE, Int.reduceNeg, Int.reduceEq, Nat.reduceLT, Nat.reduceSub, Nat.reduceMul, Nat.reduceBEq, Nat.reduceLeDiff, Int.reduceBEq, Int.reduceBNe, Int.reduceToNat, ne_eq, implies_true, bA]
  refine callI (nan_spec b) ?_
  unfold cmpZ
  by_cases h : a < b
  · have d : decide (a < b) = true := by simpa using h
    rw [if_pos h]
    simp (config := {maxSteps := 4000000}) only [U_cmp_Compare_int, d, reduceIte, reduceCtorEq, Nat.reduceEqDiff, Nat.reduceAdd, Int.reduceLT, Int.reduceLE, Int.reduceNeg, Int.reduceEq, Nat.reduceLT, Nat.reduceSub, Nat.reduceMul, Nat.reduceBEq, Nat.reduceLeDiff, Int.reduceBEq, Int.reduceBNe, Int.reduceToNat, ne_eq, implies_true, bA]
  · have d : decide (a < b) = false := by simpa using h
    rw [if_neg h]
    by_cases h2 : b < a
    · have d2 : decide (b < a) = true := by simpa using h2
      rw [if_pos h2]
      simp (config := {maxSteps := 4000000}) only [U_cmp_Compare_int, d, d2, reduceIte, reduceCtorEq, Nat.reduceEqDiff, Nat.reduceAdd, Int.reduceLT, Int.reduceLE, Int.reduceNeg, Int.reduceEq, Nat.reduceLT, Nat.reduceSub, Nat.reduceMul, Nat.reduceBEq, Nat.reduceLeDiff, Int.reduceBEq, Int.reduceBNe, Int.reduceToNat, ne_eq, implies_true, bA]
    · have d2 : decide (b < a) = false := by simpa using h2
      rw [if_neg h2]
      simp (config := {maxSteps := 4000000}) only [U_cmp_Compare_int, d, d2, reduceIte, reduceCtorEq, Nat.reduceEqDiff, Nat.reduceAdd, Int.reduceLT, Int.reduceLE, Int.reduceNeg, Int.reduceEq, Nat.reduceLT, Nat.reduceSub, Nat.reduceMul, Nat.reduceBEq, Nat.reduceLeDiff, Int.reduceBEq, Int.reduceBNe, Int.reduceToNat, ne_eq, implies_true, bA]
def orZ (a b c : Int) : Int := if a ≠ 0 then a else if b ≠ 0 then b else c
theorem or3_spec (a b c : Int) : PCall Try.prog 32 [.slc [[.int .i64 a], [.int .i64 b], [.int .i64 c]]] (.int .i64 (orZ a b c)) := by
  refine pcall_dr Try.func32 comp_cmp_Or_int ?_
  obtain ⟨l, hl⟩ : ∃ l : List Int, [a, b, c] = l := ⟨_, rfl⟩
  have hs : [[PV.int .i64 a], [PV.int .i64 b], [PV.int .i64 c]] = rowsZ .i64 l := by rw [← hl]; rfl
  have hll : l.length = 3 := by rw [← hl]; rfl
  have hrl : (l.length : Int) = 3 := by omega
  rw [hs]
  simp (config := {maxSteps := 4000000}) only [U_cmp_Or_int, hrl, reduceIte, reduceCtorEq, Nat.reduceEqDiff, Nat.reduceAdd, Int.reduceLT, Int.reduceLE, Int.reduceNeg, Int.reduceEq, Nat.reduceLT, Nat.reduceSub, Nat.reduceMul, Nat.reduceBEq, Nat.reduceLeDiff, Int.reduceBEq, Int.reduceBNe, Int.reduceToNat, ne_eq, implies_true, bA]
  refine loopF (fun i : Nat => ⟨ofL [(3, .int .i64 0), (6, .slc (rowsZ .i64 l)), (7, .int .i64 3), (8, .int .i64 (i : Int))], []⟩) (fun i => i ≤ 3 ∧ ∀ j (h : j < l.length), j < i → l[j] = 0) (fun i => 3 - i) 0 ?_ ⟨Nat.zero_le _, fun j h hj => absurd hj (Nat.not_lt_zero _)⟩ ?_
  · simp (config := {maxSteps := 4000000}) only [U_cmp_Or_int, hrl, reduceIte, reduceCtorEq, Nat.reduceEqDiff, Nat.reduceAdd, Int.reduceLT, Int.reduceLE, Int.reduceNeg, Int.reduceEq, Nat.reduceLT, Nat.reduceSub, Nat.reduceMul, Nat.reduceBEq, Nat.reduceLeDiff, Int.reduceBEq, Int.reduceBNe, Int.reduceToNat, ne_eq, implies_true, bA]
    all_goals rfl
  · rintro i ⟨hi, hj⟩
    by_cases hlt : i < 3
    · have d : decide ((i : Int) < 3) = true := by simpa using (by omega : (i : Int) < 3)
      have hr : i < (rowsZ .i64 l).length := by simp [rowsZ]; omega
      have i1 : ∀ ob : List AObj, islV ob [] 1 (.slc (rowsZ .i64 l)) (.int .i64 (i : Int)) = some (.fptr [.int .i64 (l[i]'(by omega))]) := fun ob => by
        rw [islV_slc (k := .i64) hr (by simp [rowsZ])]; simp [rowsZ]
      have e1 : IntKind.i64.wrap ((i : Int) + 1) = ((i + 1 : Nat) : Int) := by rw [wrapI (by omega) (by omega)]; omega
      by_cases h0 : l[i]'(by omega) = 0
      · have d2 : ((l[i]'(by omega) : Int) != 0) = false := by simp [h0]
        simp (config := {maxSteps := 4000000}) only [U_cmp_Or_int, d, i1, d2, e1, reduceIte, reduceCtorEq, Nat.reduceEqDiff, Nat.reduceAdd, Int.reduceLT, Int.reduceLE, Int.reduceNeg, Int.reduceEq, Nat.reduceLT, Nat.reduceSub, Nat.reduceMul, Nat.reduceBEq, Nat.reduceLeDiff, Int.reduceBEq, Int.reduceBNe, Int.reduceToNat, ne_eq, implies_true, bA]
        refine ⟨i + 1, rfl, ⟨hlt, fun j h hji => ?_⟩, by omega⟩
        by_cases hji' : j < i
        · exact hj j h hji'
        · have : j = i := by omega
          subst this; exact h0
      · have d2 : ((l[i]'(by omega) : Int) != 0) = true := by simp [h0]
        have hv : orZ a b c = l[i]'(by omega) := by
          subst hl
          unfold orZ
          have h3 : i = 0 ∨ i = 1 ∨ i = 2 := by omega
          rcases h3 with rfl | rfl | rfl
          · rw [if_pos (by simpa using h0)]; rfl
          · have := hj 0 (by simp) (by omega)
            rw [if_neg (by simpa using this), if_pos (by simpa using h0)]; rfl
          · have h1 := hj 0 (by simp) (by omega)
            have h2 := hj 1 (by simp) (by omega)
            rw [if_neg (by simpa using h1), if_neg (by simpa using h2)]; rfl
        rw [hv]
        simp (config := {maxSteps := 4000000}) only [U_cmp_Or_int, d, i1, d2, reduceIte, reduceCtorEq, Nat.reduceEqDiff, Nat.reduceAdd, Int.reduceLT, Int.reduceLE, Int.reduceNeg, Int.reduceEq, Nat.reduceLT, Nat.reduceSub, Nat.reduceMul, Nat.reduceBEq, Nat.reduceLeDiff, Int.reduceBEq, Int.reduceBNe, Int.reduceToNat, ne_eq, implies_true, bA]
    · have d : decide ((i : Int) < 3) = false := by simpa using (by omega : (3 : Int) ≤ (i : Int))
      have hv : orZ a b c = 0 := by
        subst hl
        have h0 := hj 0 (by simp) (by omega)
        have h1 := hj 1 (by simp) (by omega)
        have h2 := hj 2 (by simp) (by omega)
        simp only [List.getElem_cons_zero, List.getElem_cons_succ] at h0 h1 h2
        simp [orZ, h0, h1, h2]
      rw [hv]
      simp (config := {maxSteps := 4000000}) only [U_cmp_Or_int, d, reduceIte, reduceCtorEq, Nat.reduceEqDiff, Nat.reduceAdd, Int.reduceLT, Int.reduceLE, Int.reduceNeg, Int.reduceEq, Nat.reduceLT, Nat.reduceSub, Nat.reduceMul, Nat.reduceBEq, Nat.reduceLeDiff, Int.reduceBEq, Int.reduceBNe, Int.reduceToNat, ne_eq, implies_true, bA]
def genF (x : Fd) : Int := (readR x.body).1
def cmF (x y : Fd) : Int := orZ (cmpZ (genF y) (genF x)) (cmpZ y.seq x.seq) (cmpZ y.at_ x.at_)
def ltF (x y : Fd) : Bool := decide (cmF x y < 0)
theorem ltF_iff {x y : Fd} : ltF x y = true ↔ genF y < genF x ∨ (genF y = genF x ∧ (y.seq < x.seq ∨ (y.seq = x.seq ∧ y.at_ < x.at_))) := by
  unfold ltF cmF
  generalize genF x = a
  generalize genF y = b
  generalize x.seq = c
  generalize y.seq = d
  generalize x.at_ = e
  generalize y.at_ = f
  rw [decide_eq_true_eq]
  unfold orZ cmpZ
  by_cases h1 : b < a
  · simp [h1]
  · by_cases h2 : a < b
    · simp [h1, h2]; omega
    · have : a = b := by omega
      subst this
      by_cases h3 : d < c
      · simp [h3]
      · by_cases h4 : c < d
        · simp [h3, h4]; omega
        · have : c = d := by omega
          subst this
          by_cases h5 : f < e
          · simp [h5]
          · simp [h5]; split <;> omega
theorem ltF_no {x y : Fd} : ltF x y = false ↔ ¬ (genF y < genF x ∨ (genF y = genF x ∧ (y.seq < x.seq ∨ (y.seq = x.seq ∧ y.at_ < x.at_)))) := by
  rw [← ltF_iff]; simp
theorem ltF_ord : Ordr ltF where
  asym x y h := by rw [ltF_iff] at h; rw [ltF_no]; omega
  tr x y z h1 h2 := by rw [ltF_no] at h1 h2 ⊢; omega
theorem cmF_spec (x y : Fd) (hx : x.body.length ≤ 1000000) (hy : y.body.length ≤ 1000000) : PCall Try.prog 31 [.agg (rowF x), .agg (rowF y)] (.int .i64 (cmF x y)) := by
  refine pcall_dr Try.func31 comp_root_Roots_c1 ?_
  simp (config := {maxSteps := 4000000}) only [U_root_Roots_c1, rowF, reduceIte, reduceCtorEq, Nat.reduceEqDiff, Nat.reduceAdd, Int.reduceLT, Int.reduceLE, Int.reduceNeg, Int.reduceEq, Nat.reduceLT, Nat.reduceSub, Nat.reduceMul, Nat.reduceBEq, Nat.reduceLeDiff, Int.reduceBEq, Int.reduceBNe, Int.reduceToNat, ne_eq, implies_true, bA]
  refine callI (read_spec x.body hx) ?_
  simp (config := {maxSteps := 4000000}) only [U_root_Roots_c1, reduceIte, reduceCtorEq, Nat.reduceEqDiff, Nat.reduceAdd, Int.reduceLT, Int.reduceLE, Int.reduceNeg, Int.reduceEq, Nat.reduceLT, Nat.reduceSub, Nat.reduceMul, Nat.reduceBEq, Nat.reduceLeDiff, Int.reduceBEq, Int.reduceBNe, Int.reduceToNat, ne_eq, implies_true, bA]
  refine callI (read_spec y.body hy) ?_
  simp (config := {maxSteps := 4000000}) only [U_root_Roots_c1, reduceIte, reduceCtorEq, Nat.reduceEqDiff, Nat.reduceAdd, Int.reduceLT, Int.reduceLE, Int.reduceNeg, Int.reduceEq, Nat.reduceLT, Nat.reduceSub, Nat.reduceMul, Nat.reduceBEq, Nat.reduceLeDiff, Int.reduceBEq, Int.reduceBNe, Int.reduceToNat, ne_eq, implies_true, bA]
  refine callI (compare_spec _ _) ?_
  simp (config := {maxSteps := 4000000}) only [U_root_Roots_c1, reduceIte, reduceCtorEq, Nat.reduceEqDiff, Nat.reduceAdd, Int.reduceLT, Int.reduceLE, Int.reduceNeg, Int.reduceEq, Nat.reduceLT, Nat.reduceSub, Nat.reduceMul, Nat.reduceBEq, Nat.reduceLeDiff, Int.reduceBEq, Int.reduceBNe, Int.reduceToNat, ne_eq, implies_true, bA]
  refine callI (compare_spec _ _) ?_
  simp (config := {maxSteps := 4000000}) only [U_root_Roots_c1, reduceIte, reduceCtorEq, Nat.reduceEqDiff, Nat.reduceAdd, Int.reduceLT, Int.reduceLE, Int.reduceNeg, Int.reduceEq, Nat.reduceLT, Nat.reduceSub, Nat.reduceMul, Nat.reduceBEq, Nat.reduceLeDiff, Int.reduceBEq, Int.reduceBNe, Int.reduceToNat, ne_eq, implies_true, bA]
  refine callI (compare_spec _ _) ?_
  simp (config := {maxSteps := 4000000}) only [U_root_Roots_c1, reduceIte, reduceCtorEq, Nat.reduceEqDiff, Nat.reduceAdd, Int.reduceLT, Int.reduceLE, Int.reduceNeg, Int.reduceEq, Nat.reduceLT, Nat.reduceSub, Nat.reduceMul, Nat.reduceBEq, Nat.reduceLeDiff, Int.reduceBEq, Int.reduceBNe, Int.reduceToNat, ne_eq, implies_true, bA]
  refine callI (or3_spec _ _ _) ?_
  simp (config := {maxSteps := 4000000}) only [U_root_Roots_c1, reduceIte, reduceCtorEq, Nat.reduceEqDiff, Nat.reduceAdd, Int.reduceLT, Int.reduceLE, Int.reduceNeg, Int.reduceEq, Nat.reduceLT, Nat.reduceSub, Nat.reduceMul, Nat.reduceBEq, Nat.reduceLeDiff, Int.reduceBEq, Int.reduceBNe, Int.reduceToNat, ne_eq, implies_true, bA]
  rfl

end Go.Proofs.Ytklniadgdbjcpaa.Aw
