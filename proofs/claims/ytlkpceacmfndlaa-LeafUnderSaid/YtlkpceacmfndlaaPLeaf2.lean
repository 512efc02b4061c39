/-
  What the functions of the package 'leaf' compute, and the document's: which nodes may be.
-/
import Derived.Test.YtlkpceacmfndlaaPLeaf
set_option linter.unusedSimpArgs false
set_option linter.unusedVariables false
namespace Go.Proofs.Ytlkpceacmfndlaa.Aw
open Go.RowKit

theorem idx_any {α : Type} (c : α → Bool) (l : List α) : decide (0 ≤ idxS c l) = l.any c := by
  rcases idx_cases c l with ⟨i, h, hi, hc, hj⟩ | ⟨hi, hj⟩
  · rw [hi]
    have : l.any c = true := List.any_eq_true.2 ⟨l[i], List.getElem_mem h, hc⟩
    rw [this]; simp
  · rw [hi]
    have : l.any c = false := by
      rw [List.any_eq_false]
      intro x hx
      obtain ⟨j, h, rfl⟩ := List.mem_iff_getElem.1 hx
      simpa using hj j h
    rw [this]; rfl
theorem indexExt_spec (c : Xt → Bool) (l : List Xt) (g : Nat) (cap : List PV) (hm : l.length ≤ 9223372036854775807) (hc1 : ownL cap = false) (hu1 : undL 0 cap = true) (hp : ∀ e ∈ l, PCall Try.prog g (pE e :: cap) (.bool (c e))) :
    PCall Try.prog 55 [.slc (l.map rowE), .fn (.func g) [] cap] (.int .i64 (idxS c l)) := by
  refine pcall_go Try.func55 comp_slices_IndexFunc_api_Ext ?_
  simp (config := {maxSteps := 4000000}) only [U_slices_IndexFunc_api_Ext, reduceIte, reduceCtorEq, Nat.reduceEqDiff, Nat.reduceAdd, Int.reduceLT, Int.reduceLE, Int.reduceNeg, Int.reduceEq, Nat.reduceLT, Nat.reduceSub, Nat.reduceMul, Nat.reduceBEq, Nat.reduceLeDiff, Int.reduceBEq, Int.reduceBNe, Int.reduceToNat, ne_eq, implies_true, bA]
  refine loopF (fun i : Nat => ⟨ofL [(0, .slc (l.map rowE)), (1, .fn (.func g) [] cap), (7, .int .i64 l.length), (8, .int .i64 i)], []⟩)
    (fun i => i ≤ l.length ∧ ∀ j (h : j < l.length), j < i → c l[j] = false) (fun i => l.length - i) 0 ?_ ⟨Nat.zero_le _, fun j _ h => absurd h (by omega)⟩ ?_
  · simp (config := {maxSteps := 4000000}) only [U_slices_IndexFunc_api_Ext, hu1, reduceIte, reduceCtorEq, Nat.reduceEqDiff, Nat.reduceAdd, Int.reduceLT, Int.reduceLE, Int.reduceNeg, Int.reduceEq, Nat.reduceLT, Nat.reduceSub, Nat.reduceMul, Nat.reduceBEq, Nat.reduceLeDiff, Int.reduceBEq, Int.reduceBNe, Int.reduceToNat, ne_eq, implies_true, bA]
    all_goals rfl
  · intro i ⟨hi, hj⟩
    by_cases h : i < l.length
    · have d : decide ((i : Int) < (l.length : Int)) = true := by simpa using h
      have e1 : IntKind.i64.wrap ((i : Int) + 1) = ((i + 1 : Nat) : Int) := by rw [wrapI (by omega) (by omega)]; omega
      simp (config := {maxSteps := 4000000}) only [U_slices_IndexFunc_api_Ext, d, islV_map (g := rowE) h (rowE_len _), rowE, hc1, reduceIte, reduceCtorEq, Nat.reduceEqDiff, Nat.reduceAdd, Int.reduceLT, Int.reduceLE, Int.reduceNeg, Int.reduceEq, Nat.reduceLT, Nat.reduceSub, Nat.reduceMul, Nat.reduceBEq, Nat.reduceLeDiff, Int.reduceBEq, Int.reduceBNe, Int.reduceToNat, ne_eq, implies_true, bA]
      refine callI (hp l[i] (List.getElem_mem h)) ?_
      by_cases hc : c l[i] = true
      · simp (config := {maxSteps := 4000000}) only [U_slices_IndexFunc_api_Ext, hc, idx_hit h hc hj, reduceIte, reduceCtorEq, Nat.reduceEqDiff, Nat.reduceAdd, Int.reduceLT, Int.reduceLE, Int.reduceNeg, Int.reduceEq, Nat.reduceLT, Nat.reduceSub, Nat.reduceMul, Nat.reduceBEq, Nat.reduceLeDiff, Int.reduceBEq, Int.reduceBNe, Int.reduceToNat, ne_eq, implies_true, bA]
      · simp only [Bool.not_eq_true] at hc
        simp (config := {maxSteps := 4000000}) only [U_slices_IndexFunc_api_Ext, hc, e1, hu1, reduceIte, reduceCtorEq, Nat.reduceEqDiff, Nat.reduceAdd, Int.reduceLT, Int.reduceLE, Int.reduceNeg, Int.reduceEq, Nat.reduceLT, Nat.reduceSub, Nat.reduceMul, Nat.reduceBEq, Nat.reduceLeDiff, Int.reduceBEq, Int.reduceBNe, Int.reduceToNat, ne_eq, implies_true, bA]
        refine ⟨i + 1, rfl, ⟨h, fun j hl hlt => ?_⟩, by omega⟩
        by_cases e : j = i
        · subst e; exact hc
        · exact hj j hl (by omega)
    · have d : decide ((i : Int) < (l.length : Int)) = false := by simpa using h
      simp (config := {maxSteps := 4000000}) only [U_slices_IndexFunc_api_Ext, d, idx_none fun j hl => hj j hl (by omega), reduceIte, reduceCtorEq, Nat.reduceEqDiff, Nat.reduceAdd, Int.reduceLT, Int.reduceLE, Int.reduceNeg, Int.reduceEq, Nat.reduceLT, Nat.reduceSub, Nat.reduceMul, Nat.reduceBEq, Nat.reduceLeDiff, Int.reduceBEq, Int.reduceBNe, Int.reduceToNat, ne_eq, implies_true, bA]
theorem containsExt_spec (c : Xt → Bool) (l : List Xt) (g : Nat) (cap : List PV) (hm : l.length ≤ 9223372036854775807) (hc1 : ownL cap = false) (hu1 : undL 0 cap = true) (hp : ∀ e ∈ l, PCall Try.prog g (pE e :: cap) (.bool (c e))) :
    PCall Try.prog 42 [.slc (l.map rowE), .fn (.func g) [] cap] (.bool (l.any c)) := by
  refine pcall_go Try.func42 comp_slices_ContainsFunc_api_Ext ?_
  simp (config := {maxSteps := 4000000}) only [U_slices_ContainsFunc_api_Ext, hc1, reduceIte, reduceCtorEq, Nat.reduceEqDiff, Nat.reduceAdd, Int.reduceLT, Int.reduceLE, Int.reduceNeg, Int.reduceEq, Nat.reduceLT, Nat.reduceSub, Nat.reduceMul, Nat.reduceBEq, Nat.reduceLeDiff, Int.reduceBEq, Int.reduceBNe, Int.reduceToNat, ne_eq, implies_true, bA]
  refine callI (indexExt_spec c l g cap hm hc1 hu1 hp) ?_
  simp (config := {maxSteps := 4000000}) only [U_slices_ContainsFunc_api_Ext, idx_any, reduceIte, reduceCtorEq, Nat.reduceEqDiff, Nat.reduceAdd, Int.reduceLT, Int.reduceLE, Int.reduceNeg, Int.reduceEq, Nat.reduceLT, Nat.reduceSub, Nat.reduceMul, Nat.reduceBEq, Nat.reduceLeDiff, Int.reduceBEq, Int.reduceBNe, Int.reduceToNat, ne_eq, implies_true, bA]
theorem indexKid_spec (c : Kd → Bool) (l : List Kd) (g : Nat) (cap : List PV) (hm : l.length ≤ 9223372036854775807) (hc1 : ownL cap = false) (hu1 : undL 0 cap = true) (hp : ∀ e ∈ l, PCall Try.prog g (pK e :: cap) (.bool (c e))) :
    PCall Try.prog 66 [.slc (l.map rowK), .fn (.func g) [] cap] (.int .i64 (idxS c l)) := by
  refine pcall_go Try.func66 comp_slices_IndexFunc_api_Kid ?_
  simp (config := {maxSteps := 4000000}) only [U_slices_IndexFunc_api_Kid, reduceIte, reduceCtorEq, Nat.reduceEqDiff, Nat.reduceAdd, Int.reduceLT, Int.reduceLE, Int.reduceNeg, Int.reduceEq, Nat.reduceLT, Nat.reduceSub, Nat.reduceMul, Nat.reduceBEq, Nat.reduceLeDiff, Int.reduceBEq, Int.reduceBNe, Int.reduceToNat, ne_eq, implies_true, bA]
  refine loopF (fun i : Nat => ⟨ofL [(0, .slc (l.map rowK)), (1, .fn (.func g) [] cap), (7, .int .i64 l.length), (8, .int .i64 i)], []⟩)
    (fun i => i ≤ l.length ∧ ∀ j (h : j < l.length), j < i → c l[j] = false) (fun i => l.length - i) 0 ?_ ⟨Nat.zero_le _, fun j _ h => absurd h (by omega)⟩ ?_
  · simp (config := {maxSteps := 4000000}) only [U_slices_IndexFunc_api_Kid, hu1, reduceIte, reduceCtorEq, Nat.reduceEqDiff, Nat.reduceAdd, Int.reduceLT, Int.reduceLE, Int.reduceNeg, Int.reduceEq, Nat.reduceLT, Nat.reduceSub, Nat.reduceMul, Nat.reduceBEq, Nat.reduceLeDiff, Int.reduceBEq, Int.reduceBNe, Int.reduceToNat, ne_eq, implies_true, bA]
    all_goals rfl
  · intro i ⟨hi, hj⟩
    by_cases h : i < l.length
    · have d : decide ((i : Int) < (l.length : Int)) = true := by simpa using h
      have e1 : IntKind.i64.wrap ((i : Int) + 1) = ((i + 1 : Nat) : Int) := by rw [wrapI (by omega) (by omega)]; omega
      simp (config := {maxSteps := 4000000}) only [U_slices_IndexFunc_api_Kid, d, islV_map (g := rowK) h (rowK_len _), rowK, hc1, reduceIte, reduceCtorEq, Nat.reduceEqDiff, Nat.reduceAdd, Int.reduceLT, Int.reduceLE, Int.reduceNeg, Int.reduceEq, Nat.reduceLT, Nat.reduceSub, Nat.reduceMul, Nat.reduceBEq, Nat.reduceLeDiff, Int.reduceBEq, Int.reduceBNe, Int.reduceToNat, ne_eq, implies_true, bA]
      refine callI (hp l[i] (List.getElem_mem h)) ?_
      by_cases hc : c l[i] = true
      · simp (config := {maxSteps := 4000000}) only [U_slices_IndexFunc_api_Kid, hc, idx_hit h hc hj, reduceIte, reduceCtorEq, Nat.reduceEqDiff, Nat.reduceAdd, Int.reduceLT, Int.reduceLE, Int.reduceNeg, Int.reduceEq, Nat.reduceLT, Nat.reduceSub, Nat.reduceMul, Nat.reduceBEq, Nat.reduceLeDiff, Int.reduceBEq, Int.reduceBNe, Int.reduceToNat, ne_eq, implies_true, bA]
      · simp only [Bool.not_eq_true] at hc
        simp (config := {maxSteps := 4000000}) only [U_slices_IndexFunc_api_Kid, hc, e1, hu1, reduceIte, reduceCtorEq, Nat.reduceEqDiff, Nat.reduceAdd, Int.reduceLT, Int.reduceLE, Int.reduceNeg, Int.reduceEq, Nat.reduceLT, Nat.reduceSub, Nat.reduceMul, Nat.reduceBEq, Nat.reduceLeDiff, Int.reduceBEq, Int.reduceBNe, Int.reduceToNat, ne_eq, implies_true, bA]
        refine ⟨i + 1, rfl, ⟨h, fun j hl hlt => ?_⟩, by omega⟩
        by_cases e : j = i
        · subst e; exact hc
        · exact hj j hl (by omega)
    · have d : decide ((i : Int) < (l.length : Int)) = false := by simpa using h
      simp (config := {maxSteps := 4000000}) only [U_slices_IndexFunc_api_Kid, d, idx_none fun j hl => hj j hl (by omega), reduceIte, reduceCtorEq, Nat.reduceEqDiff, Nat.reduceAdd, Int.reduceLT, Int.reduceLE, Int.reduceNeg, Int.reduceEq, Nat.reduceLT, Nat.reduceSub, Nat.reduceMul, Nat.reduceBEq, Nat.reduceLeDiff, Int.reduceBEq, Int.reduceBNe, Int.reduceToNat, ne_eq, implies_true, bA]
theorem containsKid_spec (c : Kd → Bool) (l : List Kd) (g : Nat) (cap : List PV) (hm : l.length ≤ 9223372036854775807) (hc1 : ownL cap = false) (hu1 : undL 0 cap = true) (hp : ∀ e ∈ l, PCall Try.prog g (pK e :: cap) (.bool (c e))) :
    PCall Try.prog 49 [.slc (l.map rowK), .fn (.func g) [] cap] (.bool (l.any c)) := by
  refine pcall_go Try.func49 comp_slices_ContainsFunc_api_Kid ?_
  simp (config := {maxSteps := 4000000}) only [U_slices_ContainsFunc_api_Kid, hc1, reduceIte, reduceCtorEq, Nat.reduceEqDiff, Nat.reduceAdd, Int.reduceLT, Int.reduceLE, Int.reduceNeg, Int.reduceEq, Nat.reduceLT, Nat.reduceSub, Nat.reduceMul, Nat.reduceBEq, Nat.reduceLeDiff, Int.reduceBEq, Int.reduceBNe, Int.reduceToNat, ne_eq, implies_true, bA]
  refine callI (indexKid_spec c l g cap hm hc1 hu1 hp) ?_
  simp (config := {maxSteps := 4000000}) only [U_slices_ContainsFunc_api_Kid, idx_any, reduceIte, reduceCtorEq, Nat.reduceEqDiff, Nat.reduceAdd, Int.reduceLT, Int.reduceLE, Int.reduceNeg, Int.reduceEq, Nat.reduceLT, Nat.reduceSub, Nat.reduceMul, Nat.reduceBEq, Nat.reduceLeDiff, Int.reduceBEq, Int.reduceBNe, Int.reduceToNat, ne_eq, implies_true, bA]
theorem low_spec (e : Xt) : PCall Try.prog 43 [pE e] (.bool (decide (2048 ≤ e.at_))) := by
  refine pcall_go Try.func43 comp_leaf_extents_c1 ?_
  simp (config := {maxSteps := 4000000}) only [U_leaf_extents_c1, rowE, reduceIte, reduceCtorEq, Nat.reduceEqDiff, Nat.reduceAdd, Int.reduceLT, Int.reduceLE, Int.reduceNeg, Int.reduceEq, Nat.reduceLT, Nat.reduceSub, Nat.reduceMul, Nat.reduceBEq, Nat.reduceLeDiff, Int.reduceBEq, Int.reduceBNe, Int.reduceToNat, ne_eq, implies_true, bA]
theorem low_all (l : List Xt) : (!(l.any fun e => decide (2048 ≤ e.at_))) = l.all lowB := by
  rw [Bool.eq_iff_iff]
  simp [lowB]
theorem extents_spec (l : List Xt) (hm : l.length ≤ 9223372036854775807) : PCall Try.prog 24 [.slc (l.map rowE)] (.bool (leafB l)) := by
  refine pcall_go Try.func24 comp_leaf_extents ?_
  by_cases h1 : 1 ≤ l.length
  · have d1 : decide ((1 : Int) ≤ (l.length : Int)) = true := by simp only [decide_eq_true_eq]; omega
    by_cases h2 : l.length ≤ 8
    · have d2 : decide ((l.length : Int) ≤ 8) = true := by simp only [decide_eq_true_eq]; omega
      simp (config := {maxSteps := 4000000}) only [U_leaf_extents, d1, d2, reduceIte, reduceCtorEq, Nat.reduceEqDiff, Nat.reduceAdd, Int.reduceLT, Int.reduceLE, Int.reduceNeg, Int.reduceEq, Nat.reduceLT, Nat.reduceSub, Nat.reduceMul, Nat.reduceBEq, Nat.reduceLeDiff, Int.reduceBEq, Int.reduceBNe, Int.reduceToNat, ne_eq, implies_true, bA]
      refine callI (check_spec l hm) ?_
      cases h3 : okB l with
      | true =>
        simp (config := {maxSteps := 4000000}) only [U_leaf_extents, d1, d2, reduceIte, reduceCtorEq, Nat.reduceEqDiff, Nat.reduceAdd, Int.reduceLT, Int.reduceLE, Int.reduceNeg, Int.reduceEq, Nat.reduceLT, Nat.reduceSub, Nat.reduceMul, Nat.reduceBEq, Nat.reduceLeDiff, Int.reduceBEq, Int.reduceBNe, Int.reduceToNat, ne_eq, implies_true, bA]
        refine callI (containsExt_spec (fun e => decide (2048 ≤ e.at_)) l 43 [] hm rfl rfl fun e _ => low_spec e) ?_
        have hq : leafB l = !(l.any fun e => decide (2048 ≤ e.at_)) := by rw [low_all]; simp [leafB, h1, h2, h3]
        rw [hq]
        simp (config := {maxSteps := 4000000}) only [U_leaf_extents, reduceIte, reduceCtorEq, Nat.reduceEqDiff, Nat.reduceAdd, Int.reduceLT, Int.reduceLE, Int.reduceNeg, Int.reduceEq, Nat.reduceLT, Nat.reduceSub, Nat.reduceMul, Nat.reduceBEq, Nat.reduceLeDiff, Int.reduceBEq, Int.reduceBNe, Int.reduceToNat, ne_eq, implies_true, bA]
      | false =>
        have hq : leafB l = false := by simp [leafB, h3]
        simp (config := {maxSteps := 4000000}) only [U_leaf_extents, hq, reduceIte, reduceCtorEq, Nat.reduceEqDiff, Nat.reduceAdd, Int.reduceLT, Int.reduceLE, Int.reduceNeg, Int.reduceEq, Nat.reduceLT, Nat.reduceSub, Nat.reduceMul, Nat.reduceBEq, Nat.reduceLeDiff, Int.reduceBEq, Int.reduceBNe, Int.reduceToNat, ne_eq, implies_true, bA]
    · have d2 : decide ((l.length : Int) ≤ 8) = false := by simp only [decide_eq_false_iff_not]; omega
      have hq : leafB l = false := by simp [leafB, h2]
      simp (config := {maxSteps := 4000000}) only [U_leaf_extents, d1, d2, hq, reduceIte, reduceCtorEq, Nat.reduceEqDiff, Nat.reduceAdd, Int.reduceLT, Int.reduceLE, Int.reduceNeg, Int.reduceEq, Nat.reduceLT, Nat.reduceSub, Nat.reduceMul, Nat.reduceBEq, Nat.reduceLeDiff, Int.reduceBEq, Int.reduceBNe, Int.reduceToNat, ne_eq, implies_true, bA]
  · have d1 : decide ((1 : Int) ≤ (l.length : Int)) = false := by simp only [decide_eq_false_iff_not]; omega
    have hq : leafB l = false := by simp [leafB, h1]
    simp (config := {maxSteps := 4000000}) only [U_leaf_extents, d1, hq, reduceIte, reduceCtorEq, Nat.reduceEqDiff, Nat.reduceAdd, Int.reduceLT, Int.reduceLE, Int.reduceNeg, Int.reduceEq, Nat.reduceLT, Nat.reduceSub, Nat.reduceMul, Nat.reduceBEq, Nat.reduceLeDiff, Int.reduceBEq, Int.reduceBNe, Int.reduceToNat, ne_eq, implies_true, bA]
theorem leafy_spec (l : List Xt) (hm : l.length ≤ 9223372036854775807) : PCall Try.prog 28 [.slc (l.map rowE)] (.bool (leafB l)) := by
  refine pcall_go Try.func28 comp_ref09_Leafy ?_
  simp (config := {maxSteps := 4000000}) only [U_ref09_Leafy, reduceIte, reduceCtorEq, Nat.reduceEqDiff, Nat.reduceAdd, Int.reduceLT, Int.reduceLE, Int.reduceNeg, Int.reduceEq, Nat.reduceLT, Nat.reduceSub, Nat.reduceMul, Nat.reduceBEq, Nat.reduceLeDiff, Int.reduceBEq, Int.reduceBNe, Int.reduceToNat, ne_eq, implies_true, bA]
  refine loopF (fun i : Nat => ⟨ofL [(0, .slc (l.map rowE)), (3, .int .i64 i)], []⟩) (fun i => i ≤ l.length ∧ ∀ j (h : j < l.length), j < i → l[j].at_ < 2048) (fun i => l.length - i) 0 ?_ ⟨Nat.zero_le _, fun j _ h => absurd h (by omega)⟩ ?_
  · simp (config := {maxSteps := 4000000}) only [U_ref09_Leafy, reduceIte, reduceCtorEq, Nat.reduceEqDiff, Nat.reduceAdd, Int.reduceLT, Int.reduceLE, Int.reduceNeg, Int.reduceEq, Nat.reduceLT, Nat.reduceSub, Nat.reduceMul, Nat.reduceBEq, Nat.reduceLeDiff, Int.reduceBEq, Int.reduceBNe, Int.reduceToNat, ne_eq, implies_true, bA]
    all_goals rfl
  · intro i ⟨hi, hj⟩
    by_cases h : i < l.length
    · have d : decide ((i : Int) < (l.length : Int)) = true := by simpa using h
      have e1 : IntKind.i64.wrap ((i : Int) + 1) = ((i + 1 : Nat) : Int) := by rw [wrapI (by omega) (by omega)]; omega
      by_cases hq : 2047 < l[i].at_
      · have d2 := decide_eq_true hq
        have hr : leafB l = false := by
          rw [← Bool.not_eq_true, leafB_iff]; intro hh; have := hh.2.2.2 _ (List.getElem_mem h); omega
        simp (config := {maxSteps := 4000000}) only [U_ref09_Leafy, d, islV_map (g := rowE) h (rowE_len _), rowE, d2, hr, reduceIte, reduceCtorEq, Nat.reduceEqDiff, Nat.reduceAdd, Int.reduceLT, Int.reduceLE, Int.reduceNeg, Int.reduceEq, Nat.reduceLT, Nat.reduceSub, Nat.reduceMul, Nat.reduceBEq, Nat.reduceLeDiff, Int.reduceBEq, Int.reduceBNe, Int.reduceToNat, ne_eq, implies_true, bA]
      · have d2 := decide_eq_false hq
        simp (config := {maxSteps := 4000000}) only [U_ref09_Leafy, d, islV_map (g := rowE) h (rowE_len _), rowE, d2, e1, reduceIte, reduceCtorEq, Nat.reduceEqDiff, Nat.reduceAdd, Int.reduceLT, Int.reduceLE, Int.reduceNeg, Int.reduceEq, Nat.reduceLT, Nat.reduceSub, Nat.reduceMul, Nat.reduceBEq, Nat.reduceLeDiff, Int.reduceBEq, Int.reduceBNe, Int.reduceToNat, ne_eq, implies_true, bA]
        refine ⟨i + 1, rfl, ⟨h, fun j hl hk => ?_⟩, by omega⟩
        by_cases e : j = i
        · subst e; omega
        · exact hj j hl (by omega)
    · have d : decide ((i : Int) < (l.length : Int)) = false := by simpa using h
      have hall : ∀ e ∈ l, e.at_ < 2048 := fun e he => by
        obtain ⟨j, hl, rfl⟩ := List.mem_iff_getElem.1 he
        exact hj j hl (by omega)
      have hal : l.all lowB = true := by simpa [lowB] using hall
      by_cases h1 : 1 ≤ l.length
      · have d1 : decide ((1 : Int) ≤ (l.length : Int)) = true := by simp only [decide_eq_true_eq]; omega
        by_cases h2 : l.length ≤ 8
        · have d2 : decide ((l.length : Int) ≤ 8) = true := by simp only [decide_eq_true_eq]; omega
          simp (config := {maxSteps := 4000000}) only [U_ref09_Leafy, d, d1, d2, reduceIte, reduceCtorEq, Nat.reduceEqDiff, Nat.reduceAdd, Int.reduceLT, Int.reduceLE, Int.reduceNeg, Int.reduceEq, Nat.reduceLT, Nat.reduceSub, Nat.reduceMul, Nat.reduceBEq, Nat.reduceLeDiff, Int.reduceBEq, Int.reduceBNe, Int.reduceToNat, ne_eq, implies_true, bA]
          refine callI (rcheck_spec l hm) ?_
          have hq : leafB l = okB l := by simp [leafB, h1, h2, hal]
          rw [hq]
          simp (config := {maxSteps := 4000000}) only [U_ref09_Leafy, reduceIte, reduceCtorEq, Nat.reduceEqDiff, Nat.reduceAdd, Int.reduceLT, Int.reduceLE, Int.reduceNeg, Int.reduceEq, Nat.reduceLT, Nat.reduceSub, Nat.reduceMul, Nat.reduceBEq, Nat.reduceLeDiff, Int.reduceBEq, Int.reduceBNe, Int.reduceToNat, ne_eq, implies_true, bA]
        · have d2 : decide ((l.length : Int) ≤ 8) = false := by simp only [decide_eq_false_iff_not]; omega
          have hq : leafB l = false := by simp [leafB, h2]
          simp (config := {maxSteps := 4000000}) only [U_ref09_Leafy, d, d1, d2, hq, reduceIte, reduceCtorEq, Nat.reduceEqDiff, Nat.reduceAdd, Int.reduceLT, Int.reduceLE, Int.reduceNeg, Int.reduceEq, Nat.reduceLT, Nat.reduceSub, Nat.reduceMul, Nat.reduceBEq, Nat.reduceLeDiff, Int.reduceBEq, Int.reduceBNe, Int.reduceToNat, ne_eq, implies_true, bA]
      · have d1 : decide ((1 : Int) ≤ (l.length : Int)) = false := by simp only [decide_eq_false_iff_not]; omega
        have hq : leafB l = false := by simp [leafB, h1]
        simp (config := {maxSteps := 4000000}) only [U_ref09_Leafy, d, d1, hq, reduceIte, reduceCtorEq, Nat.reduceEqDiff, Nat.reduceAdd, Int.reduceLT, Int.reduceLE, Int.reduceNeg, Int.reduceEq, Nat.reduceLT, Nat.reduceSub, Nat.reduceMul, Nat.reduceBEq, Nat.reduceLeDiff, Int.reduceBEq, Int.reduceBNe, Int.reduceToNat, ne_eq, implies_true, bA]
theorem kidsc_spec (o k : Kd) : PCall Try.prog 50 [pK o, .fptr (rowK k)] (.bool (o.at_ == k.at_)) := by
  refine pcall_go Try.func50 comp_leaf_kids_c1 ?_
  simp (config := {maxSteps := 4000000}) only [U_leaf_kids_c1, rowK, reduceIte, reduceCtorEq, Nat.reduceEqDiff, Nat.reduceAdd, Int.reduceLT, Int.reduceLE, Int.reduceNeg, Int.reduceEq, Nat.reduceLT, Nat.reduceSub, Nat.reduceMul, Nat.reduceBEq, Nat.reduceLeDiff, Int.reduceBEq, Int.reduceBNe, Int.reduceToNat, ne_eq, implies_true, bA]
theorem kids_spec (l : List Kd) (hm : l.length ≤ 9223372036854775807) : PCall Try.prog 35 [.slc (l.map rowK)] (.bool (kidsB l)) := by
  refine pcall_go Try.func35 comp_leaf_kids ?_
  by_cases hl2 : l.length < 2
  · have d1 : decide ((l.length : Int) < 2) = true := by simp only [decide_eq_true_eq]; omega
    have hr : kidsB l = false := by rw [← Bool.not_eq_true, kidsB_iff]; omega
    simp (config := {maxSteps := 4000000}) only [U_leaf_kids, d1, hr, reduceIte, reduceCtorEq, Nat.reduceEqDiff, Nat.reduceAdd, Int.reduceLT, Int.reduceLE, Int.reduceNeg, Int.reduceEq, Nat.reduceLT, Nat.reduceSub, Nat.reduceMul, Nat.reduceBEq, Nat.reduceLeDiff, Int.reduceBEq, Int.reduceBNe, Int.reduceToNat, ne_eq, implies_true, bA]
  · have d1 : decide ((l.length : Int) < 2) = false := by simp only [decide_eq_false_iff_not]; omega
    by_cases hl8 : 8 < l.length
    · have d0 : decide ((8 : Int) < (l.length : Int)) = true := by simp only [decide_eq_true_eq]; omega
      have hr : kidsB l = false := by rw [← Bool.not_eq_true, kidsB_iff]; omega
      simp (config := {maxSteps := 4000000}) only [U_leaf_kids, d1, d0, hr, reduceIte, reduceCtorEq, Nat.reduceEqDiff, Nat.reduceAdd, Int.reduceLT, Int.reduceLE, Int.reduceNeg, Int.reduceEq, Nat.reduceLT, Nat.reduceSub, Nat.reduceMul, Nat.reduceBEq, Nat.reduceLeDiff, Int.reduceBEq, Int.reduceBNe, Int.reduceToNat, ne_eq, implies_true, bA]
    · have d0 : decide ((8 : Int) < (l.length : Int)) = false := by simp only [decide_eq_false_iff_not]; omega
      simp (config := {maxSteps := 4000000}) only [U_leaf_kids, d1, d0, reduceIte, reduceCtorEq, Nat.reduceEqDiff, Nat.reduceAdd, Int.reduceLT, Int.reduceLE, Int.reduceNeg, Int.reduceEq, Nat.reduceLT, Nat.reduceSub, Nat.reduceMul, Nat.reduceBEq, Nat.reduceLeDiff, Int.reduceBEq, Int.reduceBNe, Int.reduceToNat, ne_eq, implies_true, bA]
      refine loopF (fun i : Nat => ⟨ofL [(0, .slc (l.map rowK)), (13, .slc (l.map rowK)), (14, .int .i64 l.length), (15, .int .i64 i)], []⟩)
        (fun i => i ≤ l.length ∧ (∀ j (h : j < l.length), j < i → kidB l[j] = true) ∧ (∀ j (h : j + 1 < l.length), j + 1 < i → upB l[j] l[j + 1] = true) ∧ ∀ a (h : a < l.length) b (hb : b < l.length), a < i → b < a → l[b].at_ ≠ l[a].at_) (fun i => l.length - i) 0 ?_ ⟨Nat.zero_le _, fun j _ h => absurd h (by omega), fun j _ h => absurd h (by omega), fun a _ b _ h => absurd h (by omega)⟩ ?_
      · simp (config := {maxSteps := 4000000}) only [U_leaf_kids, reduceIte, reduceCtorEq, Nat.reduceEqDiff, Nat.reduceAdd, Int.reduceLT, Int.reduceLE, Int.reduceNeg, Int.reduceEq, Nat.reduceLT, Nat.reduceSub, Nat.reduceMul, Nat.reduceBEq, Nat.reduceLeDiff, Int.reduceBEq, Int.reduceBNe, Int.reduceToNat, ne_eq, implies_true, bA]
        all_goals rfl
      · intro i ⟨hi, h1, h2, h3⟩
        by_cases h : i < l.length
        · have d : decide ((i : Int) < (l.length : Int)) = true := by simpa using h
          have e1 : IntKind.i64.wrap ((i : Int) + 1) = ((i + 1 : Nat) : Int) := by rw [wrapI (by omega) (by omega)]; omega
          have hno : kidB l[i] = false → kidsB l = false := fun ho => by simp [kidsB, lkB_no1 h ho]
          have hgo : kidB l[i] = true → ∀ j (h : j < l.length), j < i + 1 → kidB l[j] = true := fun ho j hj hlt => by
            by_cases e : j = i
            · subst e; exact ho
            · exact h1 j hj (by omega)
          have hap : ∀ b (hb : b < l.length), b < i → l[b].at_ = l[i].at_ → kidsB l = false := fun b hb hlt he => by
            rw [← Bool.not_eq_true, kidsB_iff]; rintro ⟨_, _, _, hn⟩; exact nodup_at.1 hn i h b hb hlt he
          have hgn : (∀ b (hb : b < l.length), b < i → l[b].at_ ≠ l[i].at_) → ∀ a (h : a < l.length) b (hb : b < l.length), a < i + 1 → b < a → l[b].at_ ≠ l[a].at_ := fun hh a ha b hb hlt hba => by
            by_cases e : a = i
            · subst e; exact hh b hb hba
            · exact h3 a ha b hb (by omega) hba
          by_cases w0 : l[i].ky < 0
          · have x0 := decide_eq_true w0
            have ho : kidB l[i] = false := by rw [← Bool.not_eq_true, kidB_iff, FitK]; omega
            simp (config := {maxSteps := 4000000}) only [U_leaf_kids, d, islV_map (g := rowK) h (rowK_len _), rowK, x0, hno ho, reduceIte, reduceCtorEq, Nat.reduceEqDiff, Nat.reduceAdd, Int.reduceLT, Int.reduceLE, Int.reduceNeg, Int.reduceEq, Nat.reduceLT, Nat.reduceSub, Nat.reduceMul, Nat.reduceBEq, Nat.reduceLeDiff, Int.reduceBEq, Int.reduceBNe, Int.reduceToNat, ne_eq, implies_true, bA]
          · have x0 := decide_eq_false w0
            by_cases w1 : 16777216 ≤ l[i].ky
            · have x1 := decide_eq_true w1
              have ho : kidB l[i] = false := by rw [← Bool.not_eq_true, kidB_iff, FitK]; omega
              simp (config := {maxSteps := 4000000}) only [U_leaf_kids, d, islV_map (g := rowK) h (rowK_len _), rowK, x0, x1, hno ho, reduceIte, reduceCtorEq, Nat.reduceEqDiff, Nat.reduceAdd, Int.reduceLT, Int.reduceLE, Int.reduceNeg, Int.reduceEq, Nat.reduceLT, Nat.reduceSub, Nat.reduceMul, Nat.reduceBEq, Nat.reduceLeDiff, Int.reduceBEq, Int.reduceBNe, Int.reduceToNat, ne_eq, implies_true, bA]
            · have x1 := decide_eq_false w1
              by_cases w2 : l[i].at_ < 0
              · have x2 := decide_eq_true w2
                have ho : kidB l[i] = false := by rw [← Bool.not_eq_true, kidB_iff, FitK]; omega
                simp (config := {maxSteps := 4000000}) only [U_leaf_kids, d, islV_map (g := rowK) h (rowK_len _), rowK, x0, x1, x2, hno ho, reduceIte, reduceCtorEq, Nat.reduceEqDiff, Nat.reduceAdd, Int.reduceLT, Int.reduceLE, Int.reduceNeg, Int.reduceEq, Nat.reduceLT, Nat.reduceSub, Nat.reduceMul, Nat.reduceBEq, Nat.reduceLeDiff, Int.reduceBEq, Int.reduceBNe, Int.reduceToNat, ne_eq, implies_true, bA]
              · have x2 := decide_eq_false w2
                by_cases w3 : 2048 ≤ l[i].at_
                · have x3 := decide_eq_true w3
                  have ho : kidB l[i] = false := by rw [← Bool.not_eq_true, kidB_iff, FitK]; omega
                  simp (config := {maxSteps := 4000000}) only [U_leaf_kids, d, islV_map (g := rowK) h (rowK_len _), rowK, x0, x1, x2, x3, hno ho, reduceIte, reduceCtorEq, Nat.reduceEqDiff, Nat.reduceAdd, Int.reduceLT, Int.reduceLE, Int.reduceNeg, Int.reduceEq, Nat.reduceLT, Nat.reduceSub, Nat.reduceMul, Nat.reduceBEq, Nat.reduceLeDiff, Int.reduceBEq, Int.reduceBNe, Int.reduceToNat, ne_eq, implies_true, bA]
                · have x3 := decide_eq_false w3
                  have ho : kidB l[i] = true := kidB_iff.2 ⟨by omega, by omega, by omega, by omega⟩
                  have hrk : rowsOk 2 (l.map rowK) = true := rowsOk_map rowK_len l
                  by_cases h0 : 0 < i
                  · have d2 : decide ((0 : Int) < (i : Int)) = true := by simpa using h0
                    obtain ⟨k, rfl⟩ : ∃ k, i = k + 1 := ⟨i - 1, by omega⟩
                    have hk : k < l.length := by omega
                    have e2 : IntKind.i64.wrap (((k + 1 : Nat) : Int) - 1) = (k : Int) := by rw [wrapI (by omega) (by omega)]; omega
                    have hsl : ∀ ob fb, sslV ob fb 2 (.slc (l.map rowK)) (some none) (some (some ((k + 1 : Nat) : Int))) = some (.slc ((l.take (k + 1)).map rowK)) := fun ob fb => by rw [sslV_to hrk (by simpa using Nat.le_of_lt h), List.map_take]
                    by_cases hl : l[k].ky < l[k + 1].ky
                    · have d3 : decide (l[k + 1].ky ≤ l[k].ky) = false := by simp; omega
                      simp (config := {maxSteps := 4000000}) only [U_leaf_kids, d, islV_map (g := rowK) h (rowK_len _), rowK, x0, x1, x2, x3, d2, d3, e2, islV_map (g := rowK) hk (rowK_len _), hsl, reduceIte, reduceCtorEq, Nat.reduceEqDiff, Nat.reduceAdd, Int.reduceLT, Int.reduceLE, Int.reduceNeg, Int.reduceEq, Nat.reduceLT, Nat.reduceSub, Nat.reduceMul, Nat.reduceBEq, Nat.reduceLeDiff, Int.reduceBEq, Int.reduceBNe, Int.reduceToNat, ne_eq, implies_true, bA]
                      have hany : ((l.take (k + 1)).any fun o => o.at_ == l[k + 1].at_) = true → kidsB l = false := fun hh => by
                        obtain ⟨x, hx, hxe⟩ := List.any_eq_true.1 hh
                        obtain ⟨b, hb, rfl⟩ := List.mem_iff_getElem.1 hx
                        simp only [List.length_take] at hb
                        exact hap b (by omega) (by omega) (by simpa using hxe)
                      have hnone : ((l.take (k + 1)).any fun o => o.at_ == l[k + 1].at_) = false → ∀ b (hb : b < l.length), b < k + 1 → l[b].at_ ≠ l[k + 1].at_ := fun hh b hb hlt he => by
                        rw [List.any_eq_false] at hh
                        exact hh l[b] (by rw [List.mem_iff_getElem]; exact ⟨b, by simp; omega, by simp⟩) (by simpa using he)
                      refine callS (containsKid_spec (fun o => o.at_ == l[k + 1].at_) (l.take (k + 1)) 50 [.fptr (rowK l[k + 1])] (by simp; omega) (by simp [ownL, PV.own?]) (by simp [undL, PV.und]) fun e _ => kidsc_spec e l[k + 1]) rfl ?_
                      cases hc : ((l.take (k + 1)).any fun o => o.at_ == l[k + 1].at_) with
                      | true =>
                        simp (config := {maxSteps := 4000000}) only [U_leaf_kids, hany hc, reduceIte, reduceCtorEq, Nat.reduceEqDiff, Nat.reduceAdd, Int.reduceLT, Int.reduceLE, Int.reduceNeg, Int.reduceEq, Nat.reduceLT, Nat.reduceSub, Nat.reduceMul, Nat.reduceBEq, Nat.reduceLeDiff, Int.reduceBEq, Int.reduceBNe, Int.reduceToNat, ne_eq, implies_true, bA]
                      | false =>
                        simp (config := {maxSteps := 4000000}) only [U_leaf_kids, e1, reduceIte, reduceCtorEq, Nat.reduceEqDiff, Nat.reduceAdd, Int.reduceLT, Int.reduceLE, Int.reduceNeg, Int.reduceEq, Nat.reduceLT, Nat.reduceSub, Nat.reduceMul, Nat.reduceBEq, Nat.reduceLeDiff, Int.reduceBEq, Int.reduceBNe, Int.reduceToNat, ne_eq, implies_true, bA]
                        refine ⟨k + 1 + 1, rfl, ⟨by omega, hgo ho, fun j hj hlt => ?_, hgn (hnone hc)⟩, by omega⟩
                        by_cases e : j = k
                        · subst e; simpa [upB] using hl
                        · exact h2 j hj (by omega)
                    · have d3 : decide (l[k + 1].ky ≤ l[k].ky) = true := by simp; omega
                      have hr : kidsB l = false := by simp [kidsB, lkB_no2 (one := kidB) (lk := upB) h (by simpa [upB] using hl)]
                      simp (config := {maxSteps := 4000000}) only [U_leaf_kids, d, islV_map (g := rowK) h (rowK_len _), rowK, x0, x1, x2, x3, d2, d3, e2, islV_map (g := rowK) hk (rowK_len _), hr, reduceIte, reduceCtorEq, Nat.reduceEqDiff, Nat.reduceAdd, Int.reduceLT, Int.reduceLE, Int.reduceNeg, Int.reduceEq, Nat.reduceLT, Nat.reduceSub, Nat.reduceMul, Nat.reduceBEq, Nat.reduceLeDiff, Int.reduceBEq, Int.reduceBNe, Int.reduceToNat, ne_eq, implies_true, bA]
                  · have d2 : decide ((0 : Int) < (i : Int)) = false := by simpa using h0
                    have hsl : ∀ ob fb, sslV ob fb 2 (.slc (l.map rowK)) (some none) (some (some (i : Int))) = some (.slc ((l.take i).map rowK)) := fun ob fb => by rw [sslV_to hrk (by simpa using Nat.le_of_lt h), List.map_take]
                    simp (config := {maxSteps := 4000000}) only [U_leaf_kids, d, islV_map (g := rowK) h (rowK_len _), rowK, x0, x1, x2, x3, d2, hsl, reduceIte, reduceCtorEq, Nat.reduceEqDiff, Nat.reduceAdd, Int.reduceLT, Int.reduceLE, Int.reduceNeg, Int.reduceEq, Nat.reduceLT, Nat.reduceSub, Nat.reduceMul, Nat.reduceBEq, Nat.reduceLeDiff, Int.reduceBEq, Int.reduceBNe, Int.reduceToNat, ne_eq, implies_true, bA]
                    have hany : ((l.take (i)).any fun o => o.at_ == l[i].at_) = true → kidsB l = false := fun hh => by
                      obtain ⟨x, hx, hxe⟩ := List.any_eq_true.1 hh
                      obtain ⟨b, hb, rfl⟩ := List.mem_iff_getElem.1 hx
                      simp only [List.length_take] at hb
                      exact hap b (by omega) (by omega) (by simpa using hxe)
                    have hnone : ((l.take (i)).any fun o => o.at_ == l[i].at_) = false → ∀ b (hb : b < l.length), b < i → l[b].at_ ≠ l[i].at_ := fun hh b hb hlt he => by
                      rw [List.any_eq_false] at hh
                      exact hh l[b] (by rw [List.mem_iff_getElem]; exact ⟨b, by simp; omega, by simp⟩) (by simpa using he)
                    refine callS (containsKid_spec (fun o => o.at_ == l[i].at_) (l.take (i)) 50 [.fptr (rowK l[i])] (by simp; omega) (by simp [ownL, PV.own?]) (by simp [undL, PV.und]) fun e _ => kidsc_spec e l[i]) rfl ?_
                    cases hc : ((l.take (i)).any fun o => o.at_ == l[i].at_) with
                    | true =>
                      simp (config := {maxSteps := 4000000}) only [U_leaf_kids, hany hc, reduceIte, reduceCtorEq, Nat.reduceEqDiff, Nat.reduceAdd, Int.reduceLT, Int.reduceLE, Int.reduceNeg, Int.reduceEq, Nat.reduceLT, Nat.reduceSub, Nat.reduceMul, Nat.reduceBEq, Nat.reduceLeDiff, Int.reduceBEq, Int.reduceBNe, Int.reduceToNat, ne_eq, implies_true, bA]
                    | false =>
                      simp (config := {maxSteps := 4000000}) only [U_leaf_kids, e1, reduceIte, reduceCtorEq, Nat.reduceEqDiff, Nat.reduceAdd, Int.reduceLT, Int.reduceLE, Int.reduceNeg, Int.reduceEq, Nat.reduceLT, Nat.reduceSub, Nat.reduceMul, Nat.reduceBEq, Nat.reduceLeDiff, Int.reduceBEq, Int.reduceBNe, Int.reduceToNat, ne_eq, implies_true, bA]
                      exact ⟨i + 1, rfl, ⟨by omega, hgo ho, fun j hj hlt => absurd hlt (by omega), hgn (hnone hc)⟩, by omega⟩
        · have d : decide ((i : Int) < (l.length : Int)) = false := by simpa using h
          have hr : kidsB l = true := kidsB_iff.2 ⟨by omega, by omega, lkB_at.2 ⟨fun j hj => h1 j hj (by omega), fun j hj => h2 j hj (by omega)⟩, nodup_at.2 fun a ha b hb hba => h3 a ha b hb (by omega) hba⟩
          simp (config := {maxSteps := 4000000}) only [U_leaf_kids, d, hr, reduceIte, reduceCtorEq, Nat.reduceEqDiff, Nat.reduceAdd, Int.reduceLT, Int.reduceLE, Int.reduceNeg, Int.reduceEq, Nat.reduceLT, Nat.reduceSub, Nat.reduceMul, Nat.reduceBEq, Nat.reduceLeDiff, Int.reduceBEq, Int.reduceBNe, Int.reduceToNat, ne_eq, implies_true, bA]
theorem rkids_spec (l : List Kd) (hm : l.length ≤ 9223372036854775807) : PCall Try.prog 39 [.slc (l.map rowK)] (.bool (kidsB l)) := by
  refine pcall_go Try.func39 comp_ref09_Kids ?_
  simp (config := {maxSteps := 4000000}) only [U_ref09_Kids, reduceIte, reduceCtorEq, Nat.reduceEqDiff, Nat.reduceAdd, Int.reduceLT, Int.reduceLE, Int.reduceNeg, Int.reduceEq, Nat.reduceLT, Nat.reduceSub, Nat.reduceMul, Nat.reduceBEq, Nat.reduceLeDiff, Int.reduceBEq, Int.reduceBNe, Int.reduceToNat, ne_eq, implies_true, bA]
  refine loopF (fun i : Nat => ⟨ofL [(0, .slc (l.map rowK)), (3, .int .i64 i)], []⟩)
    (fun i => i ≤ l.length ∧ (∀ j (h : j < l.length), j < i → kidB l[j] = true) ∧ (∀ j (h : j + 1 < l.length), j + 1 < i → upB l[j] l[j + 1] = true) ∧ ∀ a (h : a < l.length) b (hb : b < l.length), a < i → b < a → l[b].at_ ≠ l[a].at_) (fun i => l.length - i) 0 ?_ ⟨Nat.zero_le _, fun j _ h => absurd h (by omega), fun j _ h => absurd h (by omega), fun a _ b _ h => absurd h (by omega)⟩ ?_
  · simp (config := {maxSteps := 4000000}) only [U_ref09_Kids, reduceIte, reduceCtorEq, Nat.reduceEqDiff, Nat.reduceAdd, Int.reduceLT, Int.reduceLE, Int.reduceNeg, Int.reduceEq, Nat.reduceLT, Nat.reduceSub, Nat.reduceMul, Nat.reduceBEq, Nat.reduceLeDiff, Int.reduceBEq, Int.reduceBNe, Int.reduceToNat, ne_eq, implies_true, bA]
    all_goals rfl
  · intro i ⟨hi, h1, h2, h3⟩
    by_cases h : i < l.length
    · have d : decide ((i : Int) < (l.length : Int)) = true := by simpa using h
      have e1 : IntKind.i64.wrap ((i : Int) + 1) = ((i + 1 : Nat) : Int) := by rw [wrapI (by omega) (by omega)]; omega
      have hno : kidB l[i] = false → kidsB l = false := fun ho => by simp [kidsB, lkB_no1 h ho]
      have hgo : kidB l[i] = true → ∀ j (h : j < l.length), j < i + 1 → kidB l[j] = true := fun ho j hj hlt => by
        by_cases e : j = i
        · subst e; exact ho
        · exact h1 j hj (by omega)
      have hap : ∀ b (hb : b < l.length), b < i → l[b].at_ = l[i].at_ → kidsB l = false := fun b hb hlt he => by
        rw [← Bool.not_eq_true, kidsB_iff]; rintro ⟨_, _, _, hn⟩; exact nodup_at.1 hn i h b hb hlt he
      have hgn : (∀ b (hb : b < l.length), b < i → l[b].at_ ≠ l[i].at_) → ∀ a (h : a < l.length) b (hb : b < l.length), a < i + 1 → b < a → l[b].at_ ≠ l[a].at_ := fun hh a ha b hb hlt hba => by
        by_cases e : a = i
        · subst e; exact hh b hb hba
        · exact h3 a ha b hb (by omega) hba
      by_cases w4 : l[i].ky < 0
      · have x4 := decide_eq_true w4
        have ho : kidB l[i] = false := by rw [← Bool.not_eq_true, kidB_iff, FitK]; omega
        simp (config := {maxSteps := 4000000}) only [U_ref09_Kids, d, islV_map (g := rowK) h (rowK_len _), rowK, x4, hno ho, reduceIte, reduceCtorEq, Nat.reduceEqDiff, Nat.reduceAdd, Int.reduceLT, Int.reduceLE, Int.reduceNeg, Int.reduceEq, Nat.reduceLT, Nat.reduceSub, Nat.reduceMul, Nat.reduceBEq, Nat.reduceLeDiff, Int.reduceBEq, Int.reduceBNe, Int.reduceToNat, ne_eq, implies_true, bA]
      · have x4 := decide_eq_false w4
        by_cases w5 : 16777215 < l[i].ky
        · have x5 := decide_eq_true w5
          have ho : kidB l[i] = false := by rw [← Bool.not_eq_true, kidB_iff, FitK]; omega
          simp (config := {maxSteps := 4000000}) only [U_ref09_Kids, d, islV_map (g := rowK) h (rowK_len _), rowK, x4, x5, hno ho, reduceIte, reduceCtorEq, Nat.reduceEqDiff, Nat.reduceAdd, Int.reduceLT, Int.reduceLE, Int.reduceNeg, Int.reduceEq, Nat.reduceLT, Nat.reduceSub, Nat.reduceMul, Nat.reduceBEq, Nat.reduceLeDiff, Int.reduceBEq, Int.reduceBNe, Int.reduceToNat, ne_eq, implies_true, bA]
        · have x5 := decide_eq_false w5
          by_cases w6 : l[i].at_ < 0
          · have x6 := decide_eq_true w6
            have ho : kidB l[i] = false := by rw [← Bool.not_eq_true, kidB_iff, FitK]; omega
            simp (config := {maxSteps := 4000000}) only [U_ref09_Kids, d, islV_map (g := rowK) h (rowK_len _), rowK, x4, x5, x6, hno ho, reduceIte, reduceCtorEq, Nat.reduceEqDiff, Nat.reduceAdd, Int.reduceLT, Int.reduceLE, Int.reduceNeg, Int.reduceEq, Nat.reduceLT, Nat.reduceSub, Nat.reduceMul, Nat.reduceBEq, Nat.reduceLeDiff, Int.reduceBEq, Int.reduceBNe, Int.reduceToNat, ne_eq, implies_true, bA]
          · have x6 := decide_eq_false w6
            by_cases w7 : 2047 < l[i].at_
            · have x7 := decide_eq_true w7
              have ho : kidB l[i] = false := by rw [← Bool.not_eq_true, kidB_iff, FitK]; omega
              simp (config := {maxSteps := 4000000}) only [U_ref09_Kids, d, islV_map (g := rowK) h (rowK_len _), rowK, x4, x5, x6, x7, hno ho, reduceIte, reduceCtorEq, Nat.reduceEqDiff, Nat.reduceAdd, Int.reduceLT, Int.reduceLE, Int.reduceNeg, Int.reduceEq, Nat.reduceLT, Nat.reduceSub, Nat.reduceMul, Nat.reduceBEq, Nat.reduceLeDiff, Int.reduceBEq, Int.reduceBNe, Int.reduceToNat, ne_eq, implies_true, bA]
            · have x7 := decide_eq_false w7
              have ho : kidB l[i] = true := kidB_iff.2 ⟨by omega, by omega, by omega, by omega⟩
              by_cases h0 : 0 < i
              · have d2 : decide ((0 : Int) < (i : Int)) = true := by simpa using h0
                obtain ⟨k, rfl⟩ : ∃ k, i = k + 1 := ⟨i - 1, by omega⟩
                have hk : k < l.length := by omega
                have e2 : IntKind.i64.wrap (((k + 1 : Nat) : Int) - 1) = (k : Int) := by rw [wrapI (by omega) (by omega)]; omega
                by_cases hl : l[k].ky < l[k + 1].ky
                · have d3 : decide (l[k + 1].ky ≤ l[k].ky) = false := by simp; omega
                  simp (config := {maxSteps := 4000000}) only [U_ref09_Kids, d, islV_map (g := rowK) h (rowK_len _), rowK, x4, x5, x6, x7, d2, d3, e2, islV_map (g := rowK) hk (rowK_len _), reduceIte, reduceCtorEq, Nat.reduceEqDiff, Nat.reduceAdd, Int.reduceLT, Int.reduceLE, Int.reduceNeg, Int.reduceEq, Nat.reduceLT, Nat.reduceSub, Nat.reduceMul, Nat.reduceBEq, Nat.reduceLeDiff, Int.reduceBEq, Int.reduceBNe, Int.reduceToNat, ne_eq, implies_true, bA]
                  refine loopF (fun b : Nat => ⟨ofL [(0, .slc (l.map rowK)), (3, .int .i64 (k + 1 : Nat)), (4, .int .i64 b)], []⟩) (fun b => b ≤ k + 1 ∧ ∀ c (hc : c < l.length), c < b → l[c].at_ ≠ l[k + 1].at_) (fun b => k + 1 - b) 0 ?_ ⟨Nat.zero_le _, fun c _ h => absurd h (by omega)⟩ ?_
                  · simp (config := {maxSteps := 4000000}) only [U_ref09_Kids, reduceIte, reduceCtorEq, Nat.reduceEqDiff, Nat.reduceAdd, Int.reduceLT, Int.reduceLE, Int.reduceNeg, Int.reduceEq, Nat.reduceLT, Nat.reduceSub, Nat.reduceMul, Nat.reduceBEq, Nat.reduceLeDiff, Int.reduceBEq, Int.reduceBNe, Int.reduceToNat, ne_eq, implies_true, bA]
                    all_goals rfl
                  · intro b ⟨hb, hn⟩
                    by_cases hbi : b < k + 1
                    · have db : decide ((b : Int) < ((k + 1 : Nat) : Int)) = true := by simp only [decide_eq_true_eq]; omega
                      have hbl : b < l.length := by omega
                      have eb : IntKind.i64.wrap ((b : Int) + 1) = ((b + 1 : Nat) : Int) := by rw [wrapI (by omega) (by omega)]; omega
                      by_cases he : l[b].at_ = l[k + 1].at_
                      · have de : (l[b].at_ == l[k + 1].at_) = true := beq_iff_eq.2 he
                        simp (config := {maxSteps := 4000000}) only [U_ref09_Kids, db, islV_map (g := rowK) hbl (rowK_len _), islV_map (g := rowK) h (rowK_len _), rowK, de, hap b hbl hbi he, reduceIte, reduceCtorEq, Nat.reduceEqDiff, Nat.reduceAdd, Int.reduceLT, Int.reduceLE, Int.reduceNeg, Int.reduceEq, Nat.reduceLT, Nat.reduceSub, Nat.reduceMul, Nat.reduceBEq, Nat.reduceLeDiff, Int.reduceBEq, Int.reduceBNe, Int.reduceToNat, ne_eq, implies_true, bA]
                      · have de : (l[b].at_ == l[k + 1].at_) = false := beq_eq_false_iff_ne.2 he
                        simp (config := {maxSteps := 4000000}) only [U_ref09_Kids, db, islV_map (g := rowK) hbl (rowK_len _), islV_map (g := rowK) h (rowK_len _), rowK, de, eb, reduceIte, reduceCtorEq, Nat.reduceEqDiff, Nat.reduceAdd, Int.reduceLT, Int.reduceLE, Int.reduceNeg, Int.reduceEq, Nat.reduceLT, Nat.reduceSub, Nat.reduceMul, Nat.reduceBEq, Nat.reduceLeDiff, Int.reduceBEq, Int.reduceBNe, Int.reduceToNat, ne_eq, implies_true, bA]
                        refine ⟨b + 1, rfl, ⟨hbi, fun c hc hlt => ?_⟩, by omega⟩
                        by_cases e : c = b
                        · subst e; exact he
                        · exact hn c hc (by omega)
                    · have db : decide ((b : Int) < ((k + 1 : Nat) : Int)) = false := by simp only [decide_eq_false_iff_not]; omega
                      have hnone : ∀ c (hc : c < l.length), c < k + 1 → l[c].at_ ≠ l[k + 1].at_ := fun c hc hlt => hn c hc (by omega)
                      simp (config := {maxSteps := 4000000}) only [U_ref09_Kids, db, e1, reduceIte, reduceCtorEq, Nat.reduceEqDiff, Nat.reduceAdd, Int.reduceLT, Int.reduceLE, Int.reduceNeg, Int.reduceEq, Nat.reduceLT, Nat.reduceSub, Nat.reduceMul, Nat.reduceBEq, Nat.reduceLeDiff, Int.reduceBEq, Int.reduceBNe, Int.reduceToNat, ne_eq, implies_true, bA]
                      refine ⟨k + 1 + 1, rfl, ⟨by omega, hgo ho, fun j hj hlt => ?_, hgn hnone⟩, by omega⟩
                      by_cases e : j = k
                      · subst e; simpa [upB] using hl
                      · exact h2 j hj (by omega)
                · have d3 : decide (l[k + 1].ky ≤ l[k].ky) = true := by simp; omega
                  have hr : kidsB l = false := by simp [kidsB, lkB_no2 (one := kidB) (lk := upB) h (by simpa [upB] using hl)]
                  simp (config := {maxSteps := 4000000}) only [U_ref09_Kids, d, islV_map (g := rowK) h (rowK_len _), rowK, x4, x5, x6, x7, d2, d3, e2, islV_map (g := rowK) hk (rowK_len _), hr, reduceIte, reduceCtorEq, Nat.reduceEqDiff, Nat.reduceAdd, Int.reduceLT, Int.reduceLE, Int.reduceNeg, Int.reduceEq, Nat.reduceLT, Nat.reduceSub, Nat.reduceMul, Nat.reduceBEq, Nat.reduceLeDiff, Int.reduceBEq, Int.reduceBNe, Int.reduceToNat, ne_eq, implies_true, bA]
              · have d2 : decide ((0 : Int) < (i : Int)) = false := by simpa using h0
                simp (config := {maxSteps := 4000000}) only [U_ref09_Kids, d, islV_map (g := rowK) h (rowK_len _), rowK, x4, x5, x6, x7, d2, reduceIte, reduceCtorEq, Nat.reduceEqDiff, Nat.reduceAdd, Int.reduceLT, Int.reduceLE, Int.reduceNeg, Int.reduceEq, Nat.reduceLT, Nat.reduceSub, Nat.reduceMul, Nat.reduceBEq, Nat.reduceLeDiff, Int.reduceBEq, Int.reduceBNe, Int.reduceToNat, ne_eq, implies_true, bA]
                refine loopF (fun b : Nat => ⟨ofL [(0, .slc (l.map rowK)), (3, .int .i64 (i : Nat)), (4, .int .i64 b)], []⟩) (fun b => b ≤ i ∧ ∀ c (hc : c < l.length), c < b → l[c].at_ ≠ l[i].at_) (fun b => i - b) 0 ?_ ⟨Nat.zero_le _, fun c _ h => absurd h (by omega)⟩ ?_
                · simp (config := {maxSteps := 4000000}) only [U_ref09_Kids, reduceIte, reduceCtorEq, Nat.reduceEqDiff, Nat.reduceAdd, Int.reduceLT, Int.reduceLE, Int.reduceNeg, Int.reduceEq, Nat.reduceLT, Nat.reduceSub, Nat.reduceMul, Nat.reduceBEq, Nat.reduceLeDiff, Int.reduceBEq, Int.reduceBNe, Int.reduceToNat, ne_eq, implies_true, bA]
                  all_goals rfl
                · intro b ⟨hb, hn⟩
                  by_cases hbi : b < i
                  · have db : decide ((b : Int) < ((i : Nat) : Int)) = true := by simp only [decide_eq_true_eq]; omega
                    have hbl : b < l.length := by omega
                    have eb : IntKind.i64.wrap ((b : Int) + 1) = ((b + 1 : Nat) : Int) := by rw [wrapI (by omega) (by omega)]; omega
                    by_cases he : l[b].at_ = l[i].at_
                    · have de : (l[b].at_ == l[i].at_) = true := beq_iff_eq.2 he
                      simp (config := {maxSteps := 4000000}) only [U_ref09_Kids, db, islV_map (g := rowK) hbl (rowK_len _), islV_map (g := rowK) h (rowK_len _), rowK, de, hap b hbl hbi he, reduceIte, reduceCtorEq, Nat.reduceEqDiff, Nat.reduceAdd, Int.reduceLT, Int.reduceLE, Int.reduceNeg, Int.reduceEq, Nat.reduceLT, Nat.reduceSub, Nat.reduceMul, Nat.reduceBEq, Nat.reduceLeDiff, Int.reduceBEq, Int.reduceBNe, Int.reduceToNat, ne_eq, implies_true, bA]
                    · have de : (l[b].at_ == l[i].at_) = false := beq_eq_false_iff_ne.2 he
                      simp (config := {maxSteps := 4000000}) only [U_ref09_Kids, db, islV_map (g := rowK) hbl (rowK_len _), islV_map (g := rowK) h (rowK_len _), rowK, de, eb, reduceIte, reduceCtorEq, Nat.reduceEqDiff, Nat.reduceAdd, Int.reduceLT, Int.reduceLE, Int.reduceNeg, Int.reduceEq, Nat.reduceLT, Nat.reduceSub, Nat.reduceMul, Nat.reduceBEq, Nat.reduceLeDiff, Int.reduceBEq, Int.reduceBNe, Int.reduceToNat, ne_eq, implies_true, bA]
                      refine ⟨b + 1, rfl, ⟨hbi, fun c hc hlt => ?_⟩, by omega⟩
                      by_cases e : c = b
                      · subst e; exact he
                      · exact hn c hc (by omega)
                  · have db : decide ((b : Int) < ((i : Nat) : Int)) = false := by simp only [decide_eq_false_iff_not]; omega
                    have hnone : ∀ c (hc : c < l.length), c < i → l[c].at_ ≠ l[i].at_ := fun c hc hlt => hn c hc (by omega)
                    simp (config := {maxSteps := 4000000}) only [U_ref09_Kids, db, e1, reduceIte, reduceCtorEq, Nat.reduceEqDiff, Nat.reduceAdd, Int.reduceLT, Int.reduceLE, Int.reduceNeg, Int.reduceEq, Nat.reduceLT, Nat.reduceSub, Nat.reduceMul, Nat.reduceBEq, Nat.reduceLeDiff, Int.reduceBEq, Int.reduceBNe, Int.reduceToNat, ne_eq, implies_true, bA]
                    exact ⟨i + 1, rfl, ⟨by omega, hgo ho, fun j hj hlt => absurd hlt (by omega), hgn hnone⟩, by omega⟩
    · have d : decide ((i : Int) < (l.length : Int)) = false := by simpa using h
      have hlk : lkB kidB upB l = true := lkB_at.2 ⟨fun j hj => h1 j hj (by omega), fun j hj => h2 j hj (by omega)⟩
      have hnd : (l.map Kd.at_).Nodup := nodup_at.2 fun a ha b hb hba => h3 a ha b hb (by omega) hba
      by_cases hl2 : 2 ≤ l.length
      · have d1 : decide ((2 : Int) ≤ (l.length : Int)) = true := by simp only [decide_eq_true_eq]; omega
        simp (config := {maxSteps := 4000000}) only [U_ref09_Kids, d, d1, reduceIte, reduceCtorEq, Nat.reduceEqDiff, Nat.reduceAdd, Int.reduceLT, Int.reduceLE, Int.reduceNeg, Int.reduceEq, Nat.reduceLT, Nat.reduceSub, Nat.reduceMul, Nat.reduceBEq, Nat.reduceLeDiff, Int.reduceBEq, Int.reduceBNe, Int.reduceToNat, ne_eq, implies_true, bA]
        have : decide ((l.length : Int) ≤ 8) = kidsB l := by
          rw [Bool.eq_iff_iff, decide_eq_true_eq, kidsB_iff]
          constructor
          · intro hh; exact ⟨hl2, by omega, hlk, hnd⟩
          · intro hh; omega
        rw [this]
      · have d1 : decide ((2 : Int) ≤ (l.length : Int)) = false := by simp only [decide_eq_false_iff_not]; omega
        have hr : kidsB l = false := by rw [← Bool.not_eq_true, kidsB_iff]; omega
        simp (config := {maxSteps := 4000000}) only [U_ref09_Kids, d, d1, hr, reduceIte, reduceCtorEq, Nat.reduceEqDiff, Nat.reduceAdd, Int.reduceLT, Int.reduceLE, Int.reduceNeg, Int.reduceEq, Nat.reduceLT, Nat.reduceSub, Nat.reduceMul, Nat.reduceBEq, Nat.reduceLeDiff, Int.reduceBEq, Int.reduceBNe, Int.reduceToNat, ne_eq, implies_true, bA]
end Go.Proofs.Ytlkpceacmfndlaa.Aw
