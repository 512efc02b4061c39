/-
  What the functions of the package 'wear' compute.
-/
import Derived.Test.YtfdehjkpglkheaaCode
import Derived.Test.YtfdehjkpglkheaaMWear
set_option linter.unusedSimpArgs false
set_option linter.unusedVariables false
namespace Go.Proofs.Ytfdehjkpglkheaa.Aw
open Go.RowKit

abbrev pB (b : Blk) : PV := .agg (rowB b)
theorem ownL_rowB (b : Blk) : ownL (rowB b) = false := by simp [rowB, ownL, PV.own?]

theorem isNaN_spec (x : Int) : PCall Try.prog 34 [.int .i64 x] (.bool false) := by
  refine pcall_go Try.func34 comp_cmp_isNaN_int ?_
  have d : (x != x) = false := by simp
  simp (config := {maxSteps := 4000000}) only [U_cmp_isNaN_int, d, reduceIte, reduceCtorEq, Nat.reduceEqDiff, Nat.reduceAdd, Int.reduceLT, Int.reduceLE, Int.reduceNeg, Int.reduceEq, Nat.reduceLT, Nat.reduceSub, Nat.reduceMul, Nat.reduceBEq, Nat.reduceLeDiff, Int.reduceBEq, Int.reduceBNe, Int.reduceToNat, ne_eq, implies_true, bA]
theorem cmp_spec (x y : Int) : PCall Try.prog 26 [.int .i64 x, .int .i64 y] (.int .i64 (cmpS x y)) := by
  refine pcall_go Try.func26 comp_cmp_Compare_int ?_
  simp (config := {maxSteps := 4000000}) only [U_cmp_Compare_int, reduceIte, reduceCtorEq, Nat.reduceEqDiff, Nat.reduceAdd, Int.reduceLT, Int.reduceLE, Int.reduceNeg, Int.reduceEq, Nat.reduceLT, Nat.reduceSub, Nat.reduceMul, Nat.reduceBEq, Nat.reduceLeDiff, Int.reduceBEq, Int.reduceBNe, Int.reduceToNat, ne_eq, implies_true, bA]
  refine callI (isNaN_spec x) ?_
  simp (config := {maxSteps := 4000000}) only [U_cmp_Compare_int, reduceIte, reduceCtorEq, Nat.reduceEqDiff, Nat.reduceAdd, Int.reduceLT, Int.reduceLE, Int.reduceNeg, Int.reduceEq, Nat.reduceLT, Nat.reduceSub, Nat.reduceMul, Nat.reduceBEq, Nat.reduceLeDiff, Int.reduceBEq, Int.reduceBNe, Int.reduceToNat, ne_eq, implies_true, bA]
  refine callI (isNaN_spec y) ?_
  by_cases h1 : x < y
  · have d1 : decide (x < y) = true := by simpa using h1
    simp (config := {maxSteps := 4000000}) only [U_cmp_Compare_int, d1, reduceIte, reduceCtorEq, Nat.reduceEqDiff, Nat.reduceAdd, Int.reduceLT, Int.reduceLE, Int.reduceNeg, Int.reduceEq, Nat.reduceLT, Nat.reduceSub, Nat.reduceMul, Nat.reduceBEq, Nat.reduceLeDiff, Int.reduceBEq, Int.reduceBNe, Int.reduceToNat, ne_eq, implies_true, bA]
    simp [cmpS, h1]
  · have d1 : decide (x < y) = false := by simpa using h1
    by_cases h2 : y < x
    · have d2 : decide (y < x) = true := by simpa using h2
      simp (config := {maxSteps := 4000000}) only [U_cmp_Compare_int, d1, d2, reduceIte, reduceCtorEq, Nat.reduceEqDiff, Nat.reduceAdd, Int.reduceLT, Int.reduceLE, Int.reduceNeg, Int.reduceEq, Nat.reduceLT, Nat.reduceSub, Nat.reduceMul, Nat.reduceBEq, Nat.reduceLeDiff, Int.reduceBEq, Int.reduceBNe, Int.reduceToNat, ne_eq, implies_true, bA]
      simp [cmpS, h1, h2]
    · have d2 : decide (y < x) = false := by simpa using h2
      simp (config := {maxSteps := 4000000}) only [U_cmp_Compare_int, d1, d2, reduceIte, reduceCtorEq, Nat.reduceEqDiff, Nat.reduceAdd, Int.reduceLT, Int.reduceLE, Int.reduceNeg, Int.reduceEq, Nat.reduceLT, Nat.reduceSub, Nat.reduceMul, Nat.reduceBEq, Nat.reduceLeDiff, Int.reduceBEq, Int.reduceBNe, Int.reduceToNat, ne_eq, implies_true, bA]
      simp [cmpS, h1, h2]
theorem or_spec (x y : Int) : PCall Try.prog 25 [.slc (rowsZ .i64 [x, y])] (.int .i64 (if x ≠ 0 then x else y)) := by
  refine pcall_go Try.func25 comp_cmp_Or_int ?_
  simp (config := {maxSteps := 4000000}) only [U_cmp_Or_int, reduceIte, reduceCtorEq, Nat.reduceEqDiff, Nat.reduceAdd, Int.reduceLT, Int.reduceLE, Int.reduceNeg, Int.reduceEq, Nat.reduceLT, Nat.reduceSub, Nat.reduceMul, Nat.reduceBEq, Nat.reduceLeDiff, Int.reduceBEq, Int.reduceBNe, Int.reduceToNat, ne_eq, implies_true, bA]
  refine loopF (fun i : Nat => ⟨ofL [(3, .int .i64 0), (6, .slc (rowsZ .i64 [x, y])), (7, .int .i64 2), (8, .int .i64 i)], []⟩) (fun i => i ≤ 2 ∧ (1 ≤ i → x = 0) ∧ (2 ≤ i → y = 0)) (fun i => 2 - i) 0 ?_ ⟨by omega, by omega, by omega⟩ ?_
  · simp (config := {maxSteps := 4000000}) only [U_cmp_Or_int, reduceIte, reduceCtorEq, Nat.reduceEqDiff, Nat.reduceAdd, Int.reduceLT, Int.reduceLE, Int.reduceNeg, Int.reduceEq, Nat.reduceLT, Nat.reduceSub, Nat.reduceMul, Nat.reduceBEq, Nat.reduceLeDiff, Int.reduceBEq, Int.reduceBNe, Int.reduceToNat, ne_eq, implies_true, bA]
    all_goals rfl
  · intro i ⟨hi, h1, h2⟩
    have hr : rowsZ .i64 [x, y] = [[.int .i64 x], [.int .i64 y]] := rfl
    by_cases h : i < 2
    · have d : decide ((i : Int) < 2) = true := by simp; omega
      have e1 : IntKind.i64.wrap ((i : Int) + 1) = ((i + 1 : Nat) : Int) := by rw [wrapI (by omega) (by omega)]; omega
      have hl : i < [x, y].length := by simpa using h
      by_cases hz : [x, y][i] = 0
      · have d2 : ([x, y][i] != 0) = false := by simp [hz]
        simp (config := {maxSteps := 4000000}) only [U_cmp_Or_int, d, islV_Z hl, d2, e1, reduceIte, reduceCtorEq, Nat.reduceEqDiff, Nat.reduceAdd, Int.reduceLT, Int.reduceLE, Int.reduceNeg, Int.reduceEq, Nat.reduceLT, Nat.reduceSub, Nat.reduceMul, Nat.reduceBEq, Nat.reduceLeDiff, Int.reduceBEq, Int.reduceBNe, Int.reduceToNat, ne_eq, implies_true, bA]
        refine ⟨i + 1, rfl, ⟨by omega, fun _ => ?_, fun h => ?_⟩, by omega⟩
        · by_cases e : i = 0
          · subst e; simpa using hz
          · exact h1 (by omega)
        · have e : i = 1 := by omega
          subst e; simpa using hz
      · have d2 : ([x, y][i] != 0) = true := by simp [hz]
        simp (config := {maxSteps := 4000000}) only [U_cmp_Or_int, d, islV_Z hl, d2, reduceIte, reduceCtorEq, Nat.reduceEqDiff, Nat.reduceAdd, Int.reduceLT, Int.reduceLE, Int.reduceNeg, Int.reduceEq, Nat.reduceLT, Nat.reduceSub, Nat.reduceMul, Nat.reduceBEq, Nat.reduceLeDiff, Int.reduceBEq, Int.reduceBNe, Int.reduceToNat, ne_eq, implies_true, bA]
        by_cases e : i = 0
        · subst e
          have hx : x ≠ 0 := by simpa using hz
          simp [hx]
        · have e : i = 1 := by omega
          subst e
          have hx : x = 0 := h1 (by omega)
          simp [hx]
    · have d : decide ((i : Int) < 2) = false := by simp; omega
      have hx : x = 0 := h1 (by omega)
      have hy : y = 0 := h2 (by omega)
      simp (config := {maxSteps := 4000000}) only [U_cmp_Or_int, d, reduceIte, reduceCtorEq, Nat.reduceEqDiff, Nat.reduceAdd, Int.reduceLT, Int.reduceLE, Int.reduceNeg, Int.reduceEq, Nat.reduceLT, Nat.reduceSub, Nat.reduceMul, Nat.reduceBEq, Nat.reduceLeDiff, Int.reduceBEq, Int.reduceBNe, Int.reduceToNat, ne_eq, implies_true, bA]
      simp [hx, hy]
theorem worn_spec (b : Blk) : PCall Try.prog 31 [pB b] (.int .i64 (wornS b)) := by
  refine pcall_go Try.func31 comp_wear_worn ?_
  simp (config := {maxSteps := 4000000}) only [U_wear_worn, rowB, reduceIte, reduceCtorEq, Nat.reduceEqDiff, Nat.reduceAdd, Int.reduceLT, Int.reduceLE, Int.reduceNeg, Int.reduceEq, Nat.reduceLT, Nat.reduceSub, Nat.reduceMul, Nat.reduceBEq, Nat.reduceLeDiff, Int.reduceBEq, Int.reduceBNe, Int.reduceToNat, ne_eq, implies_true, bA]
  have : max b.wo 0 = wornS b := by simp only [wornS, Int.max_def]; split <;> split <;> omega
  rw [this]
theorem byWorn_spec (a b : Blk) : PCall Try.prog 27 [pB a, pB b] (.int .i64 (byWornS a b)) := by
  refine pcall_go Try.func27 comp_wear_byWorn ?_
  simp (config := {maxSteps := 4000000}) only [U_wear_byWorn, rowB, reduceIte, reduceCtorEq, Nat.reduceEqDiff, Nat.reduceAdd, Int.reduceLT, Int.reduceLE, Int.reduceNeg, Int.reduceEq, Nat.reduceLT, Nat.reduceSub, Nat.reduceMul, Nat.reduceBEq, Nat.reduceLeDiff, Int.reduceBEq, Int.reduceBNe, Int.reduceToNat, ne_eq, implies_true, bA]
  refine callI (worn_spec a) ?_
  simp (config := {maxSteps := 4000000}) only [U_wear_byWorn, rowB, reduceIte, reduceCtorEq, Nat.reduceEqDiff, Nat.reduceAdd, Int.reduceLT, Int.reduceLE, Int.reduceNeg, Int.reduceEq, Nat.reduceLT, Nat.reduceSub, Nat.reduceMul, Nat.reduceBEq, Nat.reduceLeDiff, Int.reduceBEq, Int.reduceBNe, Int.reduceToNat, ne_eq, implies_true, bA]
  refine callI (worn_spec b) ?_
  simp (config := {maxSteps := 4000000}) only [U_wear_byWorn, rowB, reduceIte, reduceCtorEq, Nat.reduceEqDiff, Nat.reduceAdd, Int.reduceLT, Int.reduceLE, Int.reduceNeg, Int.reduceEq, Nat.reduceLT, Nat.reduceSub, Nat.reduceMul, Nat.reduceBEq, Nat.reduceLeDiff, Int.reduceBEq, Int.reduceBNe, Int.reduceToNat, ne_eq, implies_true, bA]
  refine callI (cmp_spec _ _) ?_
  simp (config := {maxSteps := 4000000}) only [U_wear_byWorn, rowB, reduceIte, reduceCtorEq, Nat.reduceEqDiff, Nat.reduceAdd, Int.reduceLT, Int.reduceLE, Int.reduceNeg, Int.reduceEq, Nat.reduceLT, Nat.reduceSub, Nat.reduceMul, Nat.reduceBEq, Nat.reduceLeDiff, Int.reduceBEq, Int.reduceBNe, Int.reduceToNat, ne_eq, implies_true, bA]
  all_goals rfl
theorem most1_spec (a b : Blk) : PCall Try.prog 35 [pB a, pB b] (.int .i64 (byWornS b a)) := by
  refine pcall_go Try.func35 comp_wear_most_c1 ?_
  simp (config := {maxSteps := 4000000}) only [U_wear_most_c1, rowB, reduceIte, reduceCtorEq, Nat.reduceEqDiff, Nat.reduceAdd, Int.reduceLT, Int.reduceLE, Int.reduceNeg, Int.reduceEq, Nat.reduceLT, Nat.reduceSub, Nat.reduceMul, Nat.reduceBEq, Nat.reduceLeDiff, Int.reduceBEq, Int.reduceBNe, Int.reduceToNat, ne_eq, implies_true, bA]
  refine callI (byWorn_spec b a) ?_
  simp (config := {maxSteps := 4000000}) only [U_wear_most_c1, rowB, reduceIte, reduceCtorEq, Nat.reduceEqDiff, Nat.reduceAdd, Int.reduceLT, Int.reduceLE, Int.reduceNeg, Int.reduceEq, Nat.reduceLT, Nat.reduceSub, Nat.reduceMul, Nat.reduceBEq, Nat.reduceLeDiff, Int.reduceBEq, Int.reduceBNe, Int.reduceToNat, ne_eq, implies_true, bA]
theorem is1_spec (s : Int) (b : Blk) : PCall Try.prog 33 [pB b, .fptr [.int .i64 s]] (.bool (isS s b)) := by
  refine pcall_go Try.func33 comp_wear_is_c1 ?_
  simp (config := {maxSteps := 4000000}) only [U_wear_is_c1, rowB, reduceIte, reduceCtorEq, Nat.reduceEqDiff, Nat.reduceAdd, Int.reduceLT, Int.reduceLE, Int.reduceNeg, Int.reduceEq, Nat.reduceLT, Nat.reduceSub, Nat.reduceMul, Nat.reduceBEq, Nat.reduceLeDiff, Int.reduceBEq, Int.reduceBNe, Int.reduceToNat, ne_eq, implies_true, bA]
  all_goals rfl
theorem is_spec (s : Int) : PCall Try.prog 23 [.int .i64 s] (.fn (.func 33) [] [.fptr [.int .i64 s]]) := by
  refine pcall_go Try.func23 comp_wear_is ?_
  simp (config := {maxSteps := 4000000}) only [U_wear_is, reduceIte, reduceCtorEq, Nat.reduceEqDiff, Nat.reduceAdd, Int.reduceLT, Int.reduceLE, Int.reduceNeg, Int.reduceEq, Nat.reduceLT, Nat.reduceSub, Nat.reduceMul, Nat.reduceBEq, Nat.reduceLeDiff, Int.reduceBEq, Int.reduceBNe, Int.reduceToNat, ne_eq, implies_true, bA]
theorem good_spec (b : Blk) : PCall Try.prog 29 [pB b] (.bool (goodS b)) := by
  refine pcall_go Try.func29 comp_wear_good ?_
  by_cases h : 0 ≤ b.st
  · have d : decide (0 ≤ b.st) = true := by simpa using h
    simp (config := {maxSteps := 4000000}) only [U_wear_good, rowB, d, reduceIte, reduceCtorEq, Nat.reduceEqDiff, Nat.reduceAdd, Int.reduceLT, Int.reduceLE, Int.reduceNeg, Int.reduceEq, Nat.reduceLT, Nat.reduceSub, Nat.reduceMul, Nat.reduceBEq, Nat.reduceLeDiff, Int.reduceBEq, Int.reduceBNe, Int.reduceToNat, ne_eq, implies_true, bA]
    simp [goodS, h]
  · have d : decide (0 ≤ b.st) = false := by simpa using h
    simp (config := {maxSteps := 4000000}) only [U_wear_good, rowB, d, reduceIte, reduceCtorEq, Nat.reduceEqDiff, Nat.reduceAdd, Int.reduceLT, Int.reduceLE, Int.reduceNeg, Int.reduceEq, Nat.reduceLT, Nat.reduceSub, Nat.reduceMul, Nat.reduceBEq, Nat.reduceLeDiff, Int.reduceBEq, Int.reduceBNe, Int.reduceToNat, ne_eq, implies_true, bA]
    simp [goodS, h]
theorem bad_spec (b : Blk) : PCall Try.prog 20 [pB b] (.bool (badS b)) := by
  refine pcall_go Try.func20 comp_wear_Victim_c1 ?_
  by_cases h : b.st = 3
  · have d : (b.st == 3) = true := by simpa using h
    simp (config := {maxSteps := 4000000}) only [U_wear_Victim_c1, rowB, d, reduceIte, reduceCtorEq, Nat.reduceEqDiff, Nat.reduceAdd, Int.reduceLT, Int.reduceLE, Int.reduceNeg, Int.reduceEq, Nat.reduceLT, Nat.reduceSub, Nat.reduceMul, Nat.reduceBEq, Nat.reduceLeDiff, Int.reduceBEq, Int.reduceBNe, Int.reduceToNat, ne_eq, implies_true, bA]
    simp [badS, h]
  · have d : (b.st == 3) = false := by simpa using h
    simp (config := {maxSteps := 4000000}) only [U_wear_Victim_c1, rowB, d, reduceIte, reduceCtorEq, Nat.reduceEqDiff, Nat.reduceAdd, Int.reduceLT, Int.reduceLE, Int.reduceNeg, Int.reduceEq, Nat.reduceLT, Nat.reduceSub, Nat.reduceMul, Nat.reduceBEq, Nat.reduceLeDiff, Int.reduceBEq, Int.reduceBNe, Int.reduceToNat, ne_eq, implies_true, bA]
    simp [badS, h]
theorem zero_spec (a b : Blk) : PCall Try.prog 22 [pB a, pB b] (.int .i64 0) := by
  refine pcall_go Try.func22 comp_wear_Victim_c2 ?_
  simp (config := {maxSteps := 4000000}) only [U_wear_Victim_c2, rowB, reduceIte, reduceCtorEq, Nat.reduceEqDiff, Nat.reduceAdd, Int.reduceLT, Int.reduceLE, Int.reduceNeg, Int.reduceEq, Nat.reduceLT, Nat.reduceSub, Nat.reduceMul, Nat.reduceBEq, Nat.reduceLeDiff, Int.reduceBEq, Int.reduceBNe, Int.reduceToNat, ne_eq, implies_true, bA]
theorem vicO_spec (a b : Blk) : PCall Try.prog 24 [pB a, pB b] (.int .i64 (vicO a b)) := by
  refine pcall_go Try.func24 comp_wear_Victim_c3 ?_
  simp (config := {maxSteps := 4000000}) only [U_wear_Victim_c3, rowB, reduceIte, reduceCtorEq, Nat.reduceEqDiff, Nat.reduceAdd, Int.reduceLT, Int.reduceLE, Int.reduceNeg, Int.reduceEq, Nat.reduceLT, Nat.reduceSub, Nat.reduceMul, Nat.reduceBEq, Nat.reduceLeDiff, Int.reduceBEq, Int.reduceBNe, Int.reduceToNat, ne_eq, implies_true, bA]
  refine callI (cmp_spec _ _) ?_
  simp (config := {maxSteps := 4000000}) only [U_wear_Victim_c3, rowB, reduceIte, reduceCtorEq, Nat.reduceEqDiff, Nat.reduceAdd, Int.reduceLT, Int.reduceLE, Int.reduceNeg, Int.reduceEq, Nat.reduceLT, Nat.reduceSub, Nat.reduceMul, Nat.reduceBEq, Nat.reduceLeDiff, Int.reduceBEq, Int.reduceBNe, Int.reduceToNat, ne_eq, implies_true, bA]
  refine callI (byWorn_spec a b) ?_
  simp (config := {maxSteps := 4000000}) only [U_wear_Victim_c3, rowB, reduceIte, reduceCtorEq, Nat.reduceEqDiff, Nat.reduceAdd, Int.reduceLT, Int.reduceLE, Int.reduceNeg, Int.reduceEq, Nat.reduceLT, Nat.reduceSub, Nat.reduceMul, Nat.reduceBEq, Nat.reduceLeDiff, Int.reduceBEq, Int.reduceBNe, Int.reduceToNat, ne_eq, implies_true, bA]
  refine callI (or_spec _ _) ?_
  simp (config := {maxSteps := 4000000}) only [U_wear_Victim_c3, rowB, reduceIte, reduceCtorEq, Nat.reduceEqDiff, Nat.reduceAdd, Int.reduceLT, Int.reduceLE, Int.reduceNeg, Int.reduceEq, Nat.reduceLT, Nat.reduceSub, Nat.reduceMul, Nat.reduceBEq, Nat.reduceLeDiff, Int.reduceBEq, Int.reduceBNe, Int.reduceToNat, ne_eq, implies_true, bA]
  all_goals rfl

theorem least_spec (K : Blk → Int × Int) (c : Blk → Bool) (o : Blk → Blk → Int) (l : List Blk) (g1 g2 : Nat) (cap1 : List PV) (hl : l.length ≤ 1000000) (hc1 : ownL cap1 = false) (hu1 : undL 0 cap1 = true)
    (ho : ∀ a b, o a b < 0 ↔ ltK (K a) (K b)) (hp1 : ∀ b, PCall Try.prog g1 (pB b :: cap1) (.bool (c b))) (hp2 : ∀ a b, PCall Try.prog g2 [pB a, pB b] (.int .i64 (o a b))) (r : Int) (hr : First K c l 0 l.length r) :
    PCall Try.prog 21 [.slc (l.map rowB), .fn (.func g1) [] cap1, .fn (.func g2) [] []] (.int .i64 r) := by
  refine pcall_go Try.func21 comp_wear_least_api_Block ?_
  simp (config := {maxSteps := 4000000}) only [U_wear_least_api_Block, reduceIte, reduceCtorEq, Nat.reduceEqDiff, Nat.reduceAdd, Int.reduceLT, Int.reduceLE, Int.reduceNeg, Int.reduceEq, Nat.reduceLT, Nat.reduceSub, Nat.reduceMul, Nat.reduceBEq, Nat.reduceLeDiff, Int.reduceBEq, Int.reduceBNe, Int.reduceToNat, ne_eq, implies_true, bA]
  refine loopF (fun x : Nat × Int => ⟨ofL [(0, .slc (l.map rowB)), (1, .fn (.func g1) [] cap1), (2, .fn (.func g2) [] []), (7, .int .i64 x.2), (10, .slc (l.map rowB)), (11, .int .i64 l.length), (12, .int .i64 x.1)], []⟩)
    (fun x => x.1 ≤ l.length ∧ First K c l 0 x.1 x.2) (fun x => l.length - x.1) (0, -1) ?_ ⟨Nat.zero_le _, First.none 0⟩ ?_
  · simp (config := {maxSteps := 4000000}) only [U_wear_least_api_Block, hu1, reduceIte, reduceCtorEq, Nat.reduceEqDiff, Nat.reduceAdd, Int.reduceLT, Int.reduceLE, Int.reduceNeg, Int.reduceEq, Nat.reduceLT, Nat.reduceSub, Nat.reduceMul, Nat.reduceBEq, Nat.reduceLeDiff, Int.reduceBEq, Int.reduceBNe, Int.reduceToNat, ne_eq, implies_true, bA]
    all_goals rfl
  · intro ⟨i, best⟩ ⟨hi, hf⟩
    simp only [] at hi hf ⊢
    by_cases h : i < l.length
    · have d : decide ((i : Int) < (l.length : Int)) = true := by simpa using h
      have e1 : IntKind.i64.wrap ((i : Int) + 1) = ((i + 1 : Nat) : Int) := by rw [wrapI (by omega) (by omega)]; omega
      have hup := hf.up (Nat.zero_le i)
      have hbl := bl_at h
      simp (config := {maxSteps := 4000000}) only [U_wear_least_api_Block, d, islV_map (g := rowB) h (rowB_len _), rowB, hc1, reduceIte, reduceCtorEq, Nat.reduceEqDiff, Nat.reduceAdd, Int.reduceLT, Int.reduceLE, Int.reduceNeg, Int.reduceEq, Nat.reduceLT, Nat.reduceSub, Nat.reduceMul, Nat.reduceBEq, Nat.reduceLeDiff, Int.reduceBEq, Int.reduceBNe, Int.reduceToNat, ne_eq, implies_true, bA]
      refine callI (hp1 l[i]) ?_
      by_cases hc : c l[i] = true
      · by_cases hb : best < 0
        · have d2 : decide (best < 0) = true := by simpa using hb
          simp (config := {maxSteps := 4000000}) only [U_wear_least_api_Block, d, islV_map (g := rowB) h (rowB_len _), rowB, hc, d2, e1, hu1, reduceIte, reduceCtorEq, Nat.reduceEqDiff, Nat.reduceAdd, Int.reduceLT, Int.reduceLE, Int.reduceNeg, Int.reduceEq, Nat.reduceLT, Nat.reduceSub, Nat.reduceMul, Nat.reduceBEq, Nat.reduceLeDiff, Int.reduceBEq, Int.reduceBNe, Int.reduceToNat, ne_eq, implies_true, bA]
          refine ⟨(i + 1, (i : Int)), rfl, ⟨h, ?_⟩, by show l.length - (i + 1) < l.length - i; omega⟩
          rwa [if_pos ⟨by rw [hbl]; exact hc, .inl hb⟩] at hup
        · have d2 : decide (best < 0) = false := by simpa using hb
          have hlt := hf.lt
          obtain ⟨k, rfl⟩ : ∃ k : Nat, best = k := ⟨best.toNat, by omega⟩
          have hk : k < l.length := by omega
          have hbk := bl_at hk
          simp (config := {maxSteps := 4000000}) only [U_wear_least_api_Block, d, islV_map (g := rowB) h (rowB_len _), islV_map (g := rowB) hk (rowB_len _), rowB, hc, d2, e1, reduceIte, reduceCtorEq, Nat.reduceEqDiff, Nat.reduceAdd, Int.reduceLT, Int.reduceLE, Int.reduceNeg, Int.reduceEq, Nat.reduceLT, Nat.reduceSub, Nat.reduceMul, Nat.reduceBEq, Nat.reduceLeDiff, Int.reduceBEq, Int.reduceBNe, Int.reduceToNat, ne_eq, implies_true, bA]
          refine callI (hp2 l[i] l[k]) ?_
          by_cases hlt2 : o l[i] l[k] < 0
          · have d3 : decide (o l[i] l[k] < 0) = true := by simpa using hlt2
            simp (config := {maxSteps := 4000000}) only [U_wear_least_api_Block, d3, e1, hu1, reduceIte, reduceCtorEq, Nat.reduceEqDiff, Nat.reduceAdd, Int.reduceLT, Int.reduceLE, Int.reduceNeg, Int.reduceEq, Nat.reduceLT, Nat.reduceSub, Nat.reduceMul, Nat.reduceBEq, Nat.reduceLeDiff, Int.reduceBEq, Int.reduceBNe, Int.reduceToNat, ne_eq, implies_true, bA]
            refine ⟨(i + 1, (i : Int)), rfl, ⟨h, ?_⟩, by show l.length - (i + 1) < l.length - i; omega⟩
            rwa [if_pos ⟨by rw [hbl]; exact hc, .inr (by rw [Int.toNat_natCast, hbl, hbk]; exact (ho _ _).1 hlt2)⟩] at hup
          · have d3 : decide (o l[i] l[k] < 0) = false := by simpa using hlt2
            simp (config := {maxSteps := 4000000}) only [U_wear_least_api_Block, d3, e1, hu1, reduceIte, reduceCtorEq, Nat.reduceEqDiff, Nat.reduceAdd, Int.reduceLT, Int.reduceLE, Int.reduceNeg, Int.reduceEq, Nat.reduceLT, Nat.reduceSub, Nat.reduceMul, Nat.reduceBEq, Nat.reduceLeDiff, Int.reduceBEq, Int.reduceBNe, Int.reduceToNat, ne_eq, implies_true, bA]
            refine ⟨(i + 1, (k : Int)), rfl, ⟨h, ?_⟩, by show l.length - (i + 1) < l.length - i; omega⟩
            rwa [if_neg (fun hh => hh.2.elim (fun h => by omega) fun h => hlt2 ((ho _ _).2 (by rwa [Int.toNat_natCast, hbl, hbk] at h)))] at hup
      · simp only [Bool.not_eq_true] at hc
        simp (config := {maxSteps := 4000000}) only [U_wear_least_api_Block, d, hc, e1, hu1, reduceIte, reduceCtorEq, Nat.reduceEqDiff, Nat.reduceAdd, Int.reduceLT, Int.reduceLE, Int.reduceNeg, Int.reduceEq, Nat.reduceLT, Nat.reduceSub, Nat.reduceMul, Nat.reduceBEq, Nat.reduceLeDiff, Int.reduceBEq, Int.reduceBNe, Int.reduceToNat, ne_eq, implies_true, bA]
        refine ⟨(i + 1, best), rfl, ⟨h, ?_⟩, by show l.length - (i + 1) < l.length - i; omega⟩
        rwa [if_neg (fun hh => by rw [hbl, hc] at hh; exact absurd hh.1 (by simp))] at hup
    · have d : decide ((i : Int) < (l.length : Int)) = false := by simpa using h
      have : i = l.length := by omega
      subst this
      simp (config := {maxSteps := 4000000}) only [U_wear_least_api_Block, d, reduceIte, reduceCtorEq, Nat.reduceEqDiff, Nat.reduceAdd, Int.reduceLT, Int.reduceLE, Int.reduceNeg, Int.reduceEq, Nat.reduceLT, Nat.reduceSub, Nat.reduceMul, Nat.reduceBEq, Nat.reduceLeDiff, Int.reduceBEq, Int.reduceBNe, Int.reduceToNat, ne_eq, implies_true, bA]
      rw [hf.uniq hr]
end Go.Proofs.Ytfdehjkpglkheaa.Aw
