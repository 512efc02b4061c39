/-
  The document's ledger, as contracts.
-/
import Derived.Test.YtokpmpbhpafncaaMLed
import Derived.Test.YtokpmpbhpafncaaCode
set_option linter.unusedSimpArgs false
set_option linter.unusedVariables false
namespace Go.Proofs.Ytokpmpbhpafncaa.Aw
open Go.RowKit

def pvR (cap : Int) (A : List Acc) : PV := .agg [.int .i64 cap, .slc (A.map row3)]
def idxA (id : Int) : List Acc → Option Nat
  | [] => none
  | a :: r => if a.id = id then some 0 else (idxA id r).map (· + 1)
def findI (id : Int) (A : List Acc) : Int :=
  match idxA id A with
  | none => -1
  | some i => i
theorem idxA_none {id : Int} : ∀ {A : List Acc}, (∀ j (h : j < A.length), A[j].id ≠ id) → idxA id A = none
  | [], _ => rfl
  | a :: r, h => by
    simp only [idxA]
    rw [if_neg (show ¬ a.id = id from h 0 (by simp)), idxA_none (A := r) fun j hj => h (j + 1) (by simpa using hj)]; rfl
theorem idxA_some {id : Int} : ∀ {A : List Acc} {i : Nat} (hi : i < A.length), A[i].id = id → (∀ j (h : j < i), (A[j]'(by omega)).id ≠ id) → idxA id A = some i
  | [], i, hi, _, _ => by simp at hi
  | a :: r, 0, hi, h, _ => by simp only [idxA]; rw [if_pos (show a.id = id from h)]
  | a :: r, i + 1, hi, h, hn => by
    simp only [idxA]
    rw [if_neg (show ¬ a.id = id from hn 0 (by omega)), idxA_some (A := r) (i := i) (by simpa using hi) (by simpa using h) fun j hj => by have := hn (j + 1) (by omega); simpa using this]; rfl
theorem getA_idx {id : Int} : ∀ {A : List Acc} {a : Acc}, getA id A = some a → ∃ i, idxA id A = some i ∧ ∃ h : i < A.length, A[i] = a
  | [], a, h => by cases h
  | x :: r, a, h => by
    simp only [getA] at h
    simp only [idxA]
    split at h
    · rename_i e; cases h; rw [if_pos e]; exact ⟨0, rfl, by simp, rfl⟩
    · rename_i e
      obtain ⟨i, h1, h2, h3⟩ := getA_idx h
      rw [if_neg e, h1]
      exact ⟨i + 1, rfl, by simpa using h2, by simpa using h3⟩
theorem getA_idxN {id : Int} : ∀ {A : List Acc}, getA id A = none → idxA id A = none
  | [], _ => rfl
  | x :: r, h => by
    simp only [getA] at h
    simp only [idxA]
    split at h
    · cases h
    · rename_i e; rw [if_neg e, getA_idxN h]; rfl

theorem find_spec (cap : Int) (A : List Acc) (id : Int) (hl : A.length ≤ 1000000) : PCall Try.prog 36 [pvR cap A, .int .i64 id] (.int .i64 (findI id A)) := by
  refine pcall_go Try.func36 comp_ref13_Ledger_Find ?_
  simp (config := {maxSteps := 4000000}) only [U_ref13_Ledger_Find, pvR, reduceIte, reduceCtorEq, Nat.reduceEqDiff, Nat.reduceAdd, Int.reduceLT, Int.reduceLE, Int.reduceNeg, Int.reduceEq, Nat.reduceLT, Nat.reduceSub, Nat.reduceMul, Nat.reduceBEq, Nat.reduceLeDiff, Int.reduceBEq, Int.reduceBNe, Int.reduceToNat, ne_eq, implies_true, bA]
  refine loopF (fun i : Nat => ⟨ofL [(1, .int .i64 id), (2, .ref 0 0), (5, .int .i64 (i : Int))], [.box [.int .i64 cap, .slc (A.map row3)]]⟩) (fun i => i ≤ A.length ∧ ∀ j (h : j < A.length), j < i → A[j].id ≠ id) (fun i => A.length - i) 0 ?_ ⟨Nat.zero_le _, fun j _ h => absurd h (Nat.not_lt_zero _)⟩ ?_
  · simp (config := {maxSteps := 4000000}) only [U_ref13_Ledger_Find, reduceIte, reduceCtorEq, Nat.reduceEqDiff, Nat.reduceAdd, Int.reduceLT, Int.reduceLE, Int.reduceNeg, Int.reduceEq, Nat.reduceLT, Nat.reduceSub, Nat.reduceMul, Nat.reduceBEq, Nat.reduceLeDiff, Int.reduceBEq, Int.reduceBNe, Int.reduceToNat, ne_eq, implies_true, bA]
    all_goals rfl
  · rintro i ⟨hi, hn⟩
    by_cases h : i < A.length
    · have d : decide ((i : Int) < (A.length : Int)) = true := by simpa using h
      have e1 : IntKind.i64.wrap ((i : Int) + 1) = ((i + 1 : Nat) : Int) := by rw [wrapI (by omega) (by omega)]; omega
      by_cases hid : A[i].id = id
      · have d2 : (A[i].id == id) = true := by simpa using hid
        have hf : findI id A = (i : Int) := by rw [findI, idxA_some h hid fun j hj => hn j (by omega) hj]
        simp (config := {maxSteps := 4000000}) only [U_ref13_Ledger_Find, d, islV_map (g := row3) h (row3_len _), row3, d2, hf, reduceIte, reduceCtorEq, Nat.reduceEqDiff, Nat.reduceAdd, Int.reduceLT, Int.reduceLE, Int.reduceNeg, Int.reduceEq, Nat.reduceLT, Nat.reduceSub, Nat.reduceMul, Nat.reduceBEq, Nat.reduceLeDiff, Int.reduceBEq, Int.reduceBNe, Int.reduceToNat, ne_eq, implies_true, bA]
      · have d2 : (A[i].id == id) = false := by simpa using hid
        simp (config := {maxSteps := 4000000}) only [U_ref13_Ledger_Find, d, islV_map (g := row3) h (row3_len _), row3, d2, e1, reduceIte, reduceCtorEq, Nat.reduceEqDiff, Nat.reduceAdd, Int.reduceLT, Int.reduceLE, Int.reduceNeg, Int.reduceEq, Nat.reduceLT, Nat.reduceSub, Nat.reduceMul, Nat.reduceBEq, Nat.reduceLeDiff, Int.reduceBEq, Int.reduceBNe, Int.reduceToNat, ne_eq, implies_true, bA]
        refine ⟨i + 1, rfl, ⟨h, fun j hj hji => ?_⟩, by omega⟩
        by_cases e : j = i
        · subst e; exact hid
        · exact hn j hj (by omega)
    · have d : decide ((i : Int) < (A.length : Int)) = false := by simpa using h
      have hf : findI id A = -1 := by rw [findI, idxA_none fun j hj => hn j hj (by omega)]
      simp (config := {maxSteps := 4000000}) only [U_ref13_Ledger_Find, d, hf, reduceIte, reduceCtorEq, Nat.reduceEqDiff, Nat.reduceAdd, Int.reduceLT, Int.reduceLE, Int.reduceNeg, Int.reduceEq, Nat.reduceLT, Nat.reduceSub, Nat.reduceMul, Nat.reduceBEq, Nat.reduceLeDiff, Int.reduceBEq, Int.reduceBNe, Int.reduceToNat, ne_eq, implies_true, bA]
theorem rtotal_spec (cap : Int) (A : List Acc) (hk : LedOk cap A) : PCall Try.prog 32 [pvR cap A] (.int .i64 (sumA A)) := by
  refine pcall_go Try.func32 comp_ref13_Ledger_Total ?_
  have hl := hk.len
  simp (config := {maxSteps := 4000000}) only [U_ref13_Ledger_Total, pvR, reduceIte, reduceCtorEq, Nat.reduceEqDiff, Nat.reduceAdd, Int.reduceLT, Int.reduceLE, Int.reduceNeg, Int.reduceEq, Nat.reduceLT, Nat.reduceSub, Nat.reduceMul, Nat.reduceBEq, Nat.reduceLeDiff, Int.reduceBEq, Int.reduceBNe, Int.reduceToNat, ne_eq, implies_true, bA]
  refine loopF (fun i : Nat => ⟨ofL [(1, .ref 0 0), (3, .int .i64 (sumA (A.take i))), (4, .int .i64 (i : Int))], [.box [.int .i64 cap, .slc (A.map row3)]]⟩) (fun i => i ≤ A.length) (fun i => A.length - i) 0 ?_ (Nat.zero_le _) ?_
  · simp (config := {maxSteps := 4000000}) only [U_ref13_Ledger_Total, reduceIte, reduceCtorEq, Nat.reduceEqDiff, Nat.reduceAdd, Int.reduceLT, Int.reduceLE, Int.reduceNeg, Int.reduceEq, Nat.reduceLT, Nat.reduceSub, Nat.reduceMul, Nat.reduceBEq, Nat.reduceLeDiff, Int.reduceBEq, Int.reduceBNe, Int.reduceToNat, ne_eq, implies_true, bA]
    all_goals rfl
  · intro i hi
    by_cases h : i < A.length
    · have d : decide ((i : Int) < (A.length : Int)) = true := by simpa using h
      have e1 : IntKind.i64.wrap ((i : Int) + 1) = ((i + 1 : Nat) : Int) := by rw [wrapI (by omega) (by omega)]; omega
      have hu := (sumA_take hk.use (i + 1))
      have hsum := hk.sum
      have hc1 := hk.c1
      have e2 : IntKind.i64.wrap (sumA (A.take i) + A[i].used) = sumA (A.take (i + 1)) := by rw [← sumA_get h, wrapI (by omega) (by omega)]
      simp (config := {maxSteps := 4000000}) only [U_ref13_Ledger_Total, d, islV_map (g := row3) h (row3_len _), row3, e1, e2, reduceIte, reduceCtorEq, Nat.reduceEqDiff, Nat.reduceAdd, Int.reduceLT, Int.reduceLE, Int.reduceNeg, Int.reduceEq, Nat.reduceLT, Nat.reduceSub, Nat.reduceMul, Nat.reduceBEq, Nat.reduceLeDiff, Int.reduceBEq, Int.reduceBNe, Int.reduceToNat, ne_eq, implies_true, bA]
      exact ⟨i + 1, rfl, h, by omega⟩
    · have d : decide ((i : Int) < (A.length : Int)) = false := by simpa using h
      have hA : A.take i = A := List.take_of_length_le (by omega)
      simp (config := {maxSteps := 4000000}) only [U_ref13_Ledger_Total, d, hA, reduceIte, reduceCtorEq, Nat.reduceEqDiff, Nat.reduceAdd, Int.reduceLT, Int.reduceLE, Int.reduceNeg, Int.reduceEq, Nat.reduceLT, Nat.reduceSub, Nat.reduceMul, Nat.reduceBEq, Nat.reduceLeDiff, Int.reduceBEq, Int.reduceBNe, Int.reduceToNat, ne_eq, implies_true, bA]
theorem rnew_spec (c : Int) : PCall Try.prog 19 [.int .i64 c] (pvR (max c 0) []) := by
  refine pcall_go Try.func19 comp_ref13_New ?_
  by_cases h : c < 0
  · have d : decide (c < 0) = true := by simpa using h
    have e : max c 0 = 0 := by omega
    simp (config := {maxSteps := 4000000}) only [U_ref13_New, d, e, pvR, List.map_nil, reduceIte, reduceCtorEq, Nat.reduceEqDiff, Nat.reduceAdd, Int.reduceLT, Int.reduceLE, Int.reduceNeg, Int.reduceEq, Nat.reduceLT, Nat.reduceSub, Nat.reduceMul, Nat.reduceBEq, Nat.reduceLeDiff, Int.reduceBEq, Int.reduceBNe, Int.reduceToNat, ne_eq, implies_true, bA]
  · have d : decide (c < 0) = false := by simpa using h
    have e : max c 0 = c := by omega
    simp (config := {maxSteps := 4000000}) only [U_ref13_New, d, e, pvR, List.map_nil, reduceIte, reduceCtorEq, Nat.reduceEqDiff, Nat.reduceAdd, Int.reduceLT, Int.reduceLE, Int.reduceNeg, Int.reduceEq, Nat.reduceLT, Nat.reduceSub, Nat.reduceMul, Nat.reduceBEq, Nat.reduceLeDiff, Int.reduceBEq, Int.reduceBNe, Int.reduceToNat, ne_eq, implies_true, bA]

theorem delA_app {id : Int} : ∀ (l m : List Acc), delA id (l ++ m) = delA id l ++ delA id m
  | [], m => rfl
  | a :: r, m => by
    simp only [List.cons_append, delA]
    split
    · exact delA_app r m
    · rw [delA_app r m]; rfl
theorem without_spec (cap : Int) (A : List Acc) (id : Int) (hl : A.length ≤ 1000000) : PCall Try.prog 38 [pvR cap A, .int .i64 id] (pvR cap (delA id A)) := by
  refine pcall_go Try.func38 comp_ref13_Ledger_without ?_
  simp (config := {maxSteps := 4000000}) only [U_ref13_Ledger_without, pvR, reduceIte, reduceCtorEq, Nat.reduceEqDiff, Nat.reduceAdd, Int.reduceLT, Int.reduceLE, Int.reduceNeg, Int.reduceEq, Nat.reduceLT, Nat.reduceSub, Nat.reduceMul, Nat.reduceBEq, Nat.reduceLeDiff, Int.reduceBEq, Int.reduceBNe, Int.reduceToNat, ne_eq, implies_true, bA]
  refine loopF (fun i : Nat => ⟨ofL [(1, .int .i64 id), (2, .ref 0 0), (4, .ref 1 0), (5, .osl 2 0 (delA id (A.take i)).length), (6, .int .i64 (i : Int))], [.box [.int .i64 cap, .slc (A.map row3)], .box [.int .i64 0, .slc []], .list 3 ((delA id (A.take i)).map row3)]⟩) (fun i => i ≤ A.length) (fun i => A.length - i) 0 ?_ (Nat.zero_le _) ?_
  · simp (config := {maxSteps := 4000000}) only [U_ref13_Ledger_without, reduceIte, reduceCtorEq, Nat.reduceEqDiff, Nat.reduceAdd, Int.reduceLT, Int.reduceLE, Int.reduceNeg, Int.reduceEq, Nat.reduceLT, Nat.reduceSub, Nat.reduceMul, Nat.reduceBEq, Nat.reduceLeDiff, Int.reduceBEq, Int.reduceBNe, Int.reduceToNat, ne_eq, implies_true, bA]
    all_goals rfl
  · intro i hi
    have hdl : (delA id (A.take i)).length ≤ A.length := by
      have h1 : ∀ l : List Acc, (delA id l).length ≤ l.length := by
        intro l
        induction l with
        | nil => simp [delA]
        | cons a r ih => simp only [delA]; split <;> simp <;> omega
      have := h1 (A.take i); simp at this; omega
    by_cases h : i < A.length
    · have d : decide ((i : Int) < (A.length : Int)) = true := by simpa using h
      have e1 : IntKind.i64.wrap ((i : Int) + 1) = ((i + 1 : Nat) : Int) := by rw [wrapI (by omega) (by omega)]; omega
      by_cases hid : A[i].id = id
      · have d2 : (A[i].id != id) = false := by simpa using hid
        have hd : delA id (A.take (i + 1)) = delA id (A.take i) := by
          rw [List.take_succ_eq_append_getElem h, delA_app]; simp [delA, hid]
        simp (config := {maxSteps := 4000000}) only [U_ref13_Ledger_without, d, islV_map (g := row3) h (row3_len _), row3, d2, e1, reduceIte, reduceCtorEq, Nat.reduceEqDiff, Nat.reduceAdd, Int.reduceLT, Int.reduceLE, Int.reduceNeg, Int.reduceEq, Nat.reduceLT, Nat.reduceSub, Nat.reduceMul, Nat.reduceBEq, Nat.reduceLeDiff, Int.reduceBEq, Int.reduceBNe, Int.reduceToNat, ne_eq, implies_true, bA]
        exact ⟨i + 1, by rw [hd], h, by omega⟩
      · have d2 : (A[i].id != id) = true := by simpa using hid
        have hd : delA id (A.take (i + 1)) = delA id (A.take i) ++ [A[i]] := by
          rw [List.take_succ_eq_append_getElem h, delA_app]; simp [delA, hid]
        have ha : appO [.box [.int .i64 cap, .slc (A.map row3)], .box [.int .i64 0, .slc []], .list 3 ((delA id (A.take i)).map row3)] [] none 3 (.osl 2 0 (delA id (A.take i)).length) (some [[.int .i64 A[i].id, .int .i64 A[i].size, .int .i64 A[i].used]]) =
            some (.osl 2 0 (delA id (A.take (i + 1))).length, [.box [.int .i64 cap, .slc (A.map row3)], .box [.int .i64 0, .slc []], .list 3 ((delA id (A.take (i + 1))).map row3)]) := by
          have := app_map (ob := [.box [.int .i64 cap, .slc (A.map row3)], .box [.int .i64 0, .slc []], .list 3 ((delA id (A.take i)).map row3)]) (fb := []) (nw := none) (o := 2) (n := (delA id (A.take i)).length) (e := 3) (g := row3) (l := delA id (A.take i)) (m := [A[i]]) rfl rfl rfl (by omega) (by simp) row3_len
          rw [hd, List.length_append]
          exact this
        simp (config := {maxSteps := 4000000}) only [U_ref13_Ledger_without, d, islV_map (g := row3) h (row3_len _), row3, d2, ha, e1, reduceIte, reduceCtorEq, Nat.reduceEqDiff, Nat.reduceAdd, Int.reduceLT, Int.reduceLE, Int.reduceNeg, Int.reduceEq, Nat.reduceLT, Nat.reduceSub, Nat.reduceMul, Nat.reduceBEq, Nat.reduceLeDiff, Int.reduceBEq, Int.reduceBNe, Int.reduceToNat, ne_eq, implies_true, bA]
        exact ⟨i + 1, rfl, h, by omega⟩
    · have d : decide ((i : Int) < (A.length : Int)) = false := by simpa using h
      have hA : A.take i = A := List.take_of_length_le (by omega)
      have hr : rowsO (some (AObj.list 3 ((delA id A).map row3))) 0 (delA id A).length = some ((delA id A).map row3) := rowsO_all (by simp)
      simp (config := {maxSteps := 4000000}) only [U_ref13_Ledger_without, d, hA, hr, reduceIte, reduceCtorEq, Nat.reduceEqDiff, Nat.reduceAdd, Int.reduceLT, Int.reduceLE, Int.reduceNeg, Int.reduceEq, Nat.reduceLT, Nat.reduceSub, Nat.reduceMul, Nat.reduceBEq, Nat.reduceLeDiff, Int.reduceBEq, Int.reduceBNe, Int.reduceToNat, ne_eq, implies_true, bA]
/-- What 'with' has made of the first so many. -/
def putB (a : Acc) (l : List Acc) : Bool := l.any fun y => decide (a.id < y.id)
def putL (a : Acc) (l : List Acc) : List Acc := if putB a l = true then insA a l else l
theorem insA_no {a : Acc} : ∀ {l : List Acc} (m : List Acc), putB a l = false → insA a (l ++ m) = l ++ insA a m
  | [], m, _ => rfl
  | x :: r, m, h => by
    simp only [putB, List.any_cons, Bool.or_eq_false_iff, decide_eq_false_iff_not] at h
    simp only [List.cons_append, insA]
    rw [if_neg h.1, insA_no m h.2]
theorem insA_yes {a : Acc} : ∀ {l : List Acc} (m : List Acc), putB a l = true → insA a (l ++ m) = insA a l ++ m
  | [], m, h => by simp [putB] at h
  | x :: r, m, h => by
    simp only [List.cons_append, insA]
    by_cases hx : a.id < x.id
    · rw [if_pos hx, if_pos hx]; rfl
    · rw [if_neg hx, if_neg hx, insA_yes m (by simpa [putB, hx] using h)]; rfl
theorem putL_len (a : Acc) (l : List Acc) : (putL a l).length ≤ l.length + 1 := by
  unfold putL; split
  · rw [insA_len]; omega
  · omega
theorem with_spec (cap : Int) (A : List Acc) (a : Acc) (hl : A.length ≤ 1000000) : PCall Try.prog 37 [pvR cap A, .agg (row3 a)] (pvR cap (insA a A)) := by
  refine pcall_go Try.func37 comp_ref13_Ledger_with ?_
  simp (config := {maxSteps := 4000000}) only [U_ref13_Ledger_with, pvR, row3, reduceIte, reduceCtorEq, Nat.reduceEqDiff, Nat.reduceAdd, Int.reduceLT, Int.reduceLE, Int.reduceNeg, Int.reduceEq, Nat.reduceLT, Nat.reduceSub, Nat.reduceMul, Nat.reduceBEq, Nat.reduceLeDiff, Int.reduceBEq, Int.reduceBNe, Int.reduceToNat, ne_eq, implies_true, bA]
  refine loopF (fun i : Nat => ⟨ofL [(2, .ref 0 0), (3, .ref 1 0), (4, .ref 2 0), (5, .osl 3 0 (putL a (A.take i)).length), (6, .bool (putB a (A.take i))), (7, .int .i64 (i : Int))], [.box [.int .i64 cap, .slc (A.map row3)], .box [.int .i64 a.id, .int .i64 a.size, .int .i64 a.used], .box [.int .i64 0, .slc []], .list 3 ((putL a (A.take i)).map row3)]⟩) (fun i => i ≤ A.length) (fun i => A.length - i) 0 ?_ (Nat.zero_le _) ?_
  · simp (config := {maxSteps := 4000000}) only [U_ref13_Ledger_with, reduceIte, reduceCtorEq, Nat.reduceEqDiff, Nat.reduceAdd, Int.reduceLT, Int.reduceLE, Int.reduceNeg, Int.reduceEq, Nat.reduceLT, Nat.reduceSub, Nat.reduceMul, Nat.reduceBEq, Nat.reduceLeDiff, Int.reduceBEq, Int.reduceBNe, Int.reduceToNat, ne_eq, implies_true, bA]
    all_goals rfl
  · intro i hi
    have hpl := putL_len a (A.take i)
    have htl : (A.take i).length ≤ A.length := by simp; omega
    have app : ∀ (l : List Acc) (x : Acc) (n : Nat), n = l.length → l.length ≤ 2000000 → appO [.box [.int .i64 cap, .slc (A.map row3)], .box [.int .i64 a.id, .int .i64 a.size, .int .i64 a.used], .box [.int .i64 0, .slc []], .list 3 (l.map row3)] [] none 3 (.osl 3 0 n) (some [[.int .i64 x.id, .int .i64 x.size, .int .i64 x.used]]) =
        some (.osl 3 0 (n + 1), [.box [.int .i64 cap, .slc (A.map row3)], .box [.int .i64 a.id, .int .i64 a.size, .int .i64 a.used], .box [.int .i64 0, .slc []], .list 3 ((l ++ [x]).map row3)]) := by
      intro l x n hn hlx
      subst hn
      have := app_map (ob := [.box [.int .i64 cap, .slc (A.map row3)], .box [.int .i64 a.id, .int .i64 a.size, .int .i64 a.used], .box [.int .i64 0, .slc []], .list 3 (l.map row3)]) (fb := []) (nw := none) (o := 3) (n := l.length) (e := 3) (g := row3) (l := l) (m := [x]) rfl rfl rfl (by omega) (by simp) row3_len
      exact this
    by_cases h : i < A.length
    · have d : decide ((i : Int) < (A.length : Int)) = true := by simpa using h
      have e1 : IntKind.i64.wrap ((i : Int) + 1) = ((i + 1 : Nat) : Int) := by rw [wrapI (by omega) (by omega)]; omega
      have hts := List.take_succ_eq_append_getElem h
      cases hp : putB a (A.take i) with
      | true =>
        have hb : putB a (A.take (i + 1)) = true := by rw [hts]; unfold putB at hp ⊢; rw [List.any_append, hp]; rfl
        have hL : putL a (A.take (i + 1)) = putL a (A.take i) ++ [A[i]] := by
          rw [putL, putL, hb, hp, hts]; simp only [if_true]; exact insA_yes _ hp
        have a1 := app (putL a (A.take i)) A[i] _ rfl (by omega)
        simp (config := {maxSteps := 4000000}) only [U_ref13_Ledger_with, d, islV_map (g := row3) h (row3_len _), row3, a1, e1, reduceIte, reduceCtorEq, Nat.reduceEqDiff, Nat.reduceAdd, Int.reduceLT, Int.reduceLE, Int.reduceNeg, Int.reduceEq, Nat.reduceLT, Nat.reduceSub, Nat.reduceMul, Nat.reduceBEq, Nat.reduceLeDiff, Int.reduceBEq, Int.reduceBNe, Int.reduceToNat, ne_eq, implies_true, bA]
        exact ⟨i + 1, by rw [hb, hL, List.length_append]; rfl, h, by omega⟩
      | false =>
        have hL0 : putL a (A.take i) = A.take i := by rw [putL, hp]; rfl
        rw [hL0] at hpl ⊢
        by_cases hx : a.id < A[i].id
        · have d2 : decide (a.id < A[i].id) = true := by simpa using hx
          have hb : putB a (A.take (i + 1)) = true := by rw [hts]; unfold putB; rw [List.any_append]; simp [hx]
          have hL : putL a (A.take (i + 1)) = A.take i ++ [a] ++ [A[i]] := by
            rw [putL, hb, hts]; simp only [if_true]; rw [insA_no _ hp]; simp [insA, hx]
          have a1 := app (A.take i) a _ rfl (by omega)
          have a2 := app (A.take i ++ [a]) A[i] ((A.take i).length + 1) (by simp) (by simp; omega)
          simp (config := {maxSteps := 4000000}) only [U_ref13_Ledger_with, d, islV_map (g := row3) h (row3_len _), row3, d2, a1, a2, e1, reduceIte, reduceCtorEq, Nat.reduceEqDiff, Nat.reduceAdd, Int.reduceLT, Int.reduceLE, Int.reduceNeg, Int.reduceEq, Nat.reduceLT, Nat.reduceSub, Nat.reduceMul, Nat.reduceBEq, Nat.reduceLeDiff, Int.reduceBEq, Int.reduceBNe, Int.reduceToNat, ne_eq, implies_true, bA]
          exact ⟨i + 1, by rw [hb, hL]; simp, h, by omega⟩
        · have d2 : decide (a.id < A[i].id) = false := by simpa using hx
          have hb : putB a (A.take (i + 1)) = false := by
            rw [hts]; unfold putB at hp ⊢; rw [List.any_append, hp]; simp [hx]
          have hL : putL a (A.take (i + 1)) = A.take i ++ [A[i]] := by rw [putL, hb, hts]; rfl
          have a1 := app (A.take i) A[i] _ rfl (by omega)
          simp (config := {maxSteps := 4000000}) only [U_ref13_Ledger_with, d, islV_map (g := row3) h (row3_len _), row3, d2, a1, e1, reduceIte, reduceCtorEq, Nat.reduceEqDiff, Nat.reduceAdd, Int.reduceLT, Int.reduceLE, Int.reduceNeg, Int.reduceEq, Nat.reduceLT, Nat.reduceSub, Nat.reduceMul, Nat.reduceBEq, Nat.reduceLeDiff, Int.reduceBEq, Int.reduceBNe, Int.reduceToNat, ne_eq, implies_true, bA]
          exact ⟨i + 1, by rw [hb, hL, List.length_append]; rfl, h, by omega⟩
    · have d : decide ((i : Int) < (A.length : Int)) = false := by simpa using h
      have hA : A.take i = A := List.take_of_length_le (by omega)
      rw [hA]
      cases hp : putB a A with
      | true =>
        have hL : putL a A = insA a A := by rw [putL, hp]; rfl
        rw [hL]
        have hr : rowsO (some (AObj.list 3 ((insA a A).map row3))) 0 (insA a A).length = some ((insA a A).map row3) := rowsO_all (by simp)
        simp (config := {maxSteps := 4000000}) only [U_ref13_Ledger_with, d, hr, reduceIte, reduceCtorEq, Nat.reduceEqDiff, Nat.reduceAdd, Int.reduceLT, Int.reduceLE, Int.reduceNeg, Int.reduceEq, Nat.reduceLT, Nat.reduceSub, Nat.reduceMul, Nat.reduceBEq, Nat.reduceLeDiff, Int.reduceBEq, Int.reduceBNe, Int.reduceToNat, ne_eq, implies_true, bA]
      | false =>
        have hL : putL a A = A := by rw [putL, hp]; rfl
        have hI : insA a A = A ++ [a] := by have := insA_no (a := a) (l := A) [] hp; simpa [insA] using this
        have a1 := app A a _ rfl (by omega)
        rw [hL, hI]
        have hr : rowsO (some (AObj.list 3 ((A ++ [a]).map row3))) 0 (A.length + 1) = some ((A ++ [a]).map row3) := rowsO_all (by simp)
        simp (config := {maxSteps := 4000000}) only [U_ref13_Ledger_with, d, a1, row3, hr, reduceIte, reduceCtorEq, Nat.reduceEqDiff, Nat.reduceAdd, Int.reduceLT, Int.reduceLE, Int.reduceNeg, Int.reduceEq, Nat.reduceLT, Nat.reduceSub, Nat.reduceMul, Nat.reduceBEq, Nat.reduceLeDiff, Int.reduceBEq, Int.reduceBNe, Int.reduceToNat, ne_eq, implies_true, bA]

/- the acts -/
theorem ropen_spec (cap : Int) (A : List Acc) (hk : LedOk cap A) (id size : Int) : PCall Try.prog 27 [pvR cap A, .int .i64 id, .int .i64 size] (.tup [pvR cap (openS A id size).1, .int .i64 (openS A id size).2]) := by
  refine pcall_go Try.func27 comp_ref13_Ledger_Open ?_
  have hl := hk.len
  unfold openS
  by_cases c1 : id < 1
  · have d1 : decide (id < 1) = true := by simpa using c1
    rw [if_pos (.inl c1)]
    simp (config := {maxSteps := 4000000}) only [U_ref13_Ledger_Open, d1, pvR, reduceIte, reduceCtorEq, Nat.reduceEqDiff, Nat.reduceAdd, Int.reduceLT, Int.reduceLE, Int.reduceNeg, Int.reduceEq, Nat.reduceLT, Nat.reduceSub, Nat.reduceMul, Nat.reduceBEq, Nat.reduceLeDiff, Int.reduceBEq, Int.reduceBNe, Int.reduceToNat, ne_eq, implies_true, bA]
  · have d1 : decide (id < 1) = false := by simpa using c1
    by_cases c2 : 65535 < id
    · have d2 : decide (65535 < id) = true := by simpa using c2
      rw [if_pos (.inr (.inl c2))]
      simp (config := {maxSteps := 4000000}) only [U_ref13_Ledger_Open, d1, d2, pvR, reduceIte, reduceCtorEq, Nat.reduceEqDiff, Nat.reduceAdd, Int.reduceLT, Int.reduceLE, Int.reduceNeg, Int.reduceEq, Nat.reduceLT, Nat.reduceSub, Nat.reduceMul, Nat.reduceBEq, Nat.reduceLeDiff, Int.reduceBEq, Int.reduceBNe, Int.reduceToNat, ne_eq, implies_true, bA]
    · have d2 : decide (65535 < id) = false := by simpa using c2
      by_cases c3 : size < 0
      · have d3 : decide (size < 0) = true := by simpa using c3
        rw [if_pos (.inr (.inr (.inl c3)))]
        simp (config := {maxSteps := 4000000}) only [U_ref13_Ledger_Open, d1, d2, d3, pvR, reduceIte, reduceCtorEq, Nat.reduceEqDiff, Nat.reduceAdd, Int.reduceLT, Int.reduceLE, Int.reduceNeg, Int.reduceEq, Nat.reduceLT, Nat.reduceSub, Nat.reduceMul, Nat.reduceBEq, Nat.reduceLeDiff, Int.reduceBEq, Int.reduceBNe, Int.reduceToNat, ne_eq, implies_true, bA]
      · have d3 : decide (size < 0) = false := by simpa using c3
        by_cases c4 : 16777216 < size
        · have d4 : decide (16777216 < size) = true := by simpa using c4
          rw [if_pos (.inr (.inr (.inr c4)))]
          simp (config := {maxSteps := 4000000}) only [U_ref13_Ledger_Open, d1, d2, d3, d4, pvR, reduceIte, reduceCtorEq, Nat.reduceEqDiff, Nat.reduceAdd, Int.reduceLT, Int.reduceLE, Int.reduceNeg, Int.reduceEq, Nat.reduceLT, Nat.reduceSub, Nat.reduceMul, Nat.reduceBEq, Nat.reduceLeDiff, Int.reduceBEq, Int.reduceBNe, Int.reduceToNat, ne_eq, implies_true, bA]
        · have d4 : decide (16777216 < size) = false := by simpa using c4
          rw [if_neg (show ¬ (id < 1 ∨ 65535 < id ∨ size < 0 ∨ 16777216 < size) by omega)]
          have hf := find_spec cap A id (by omega)
          simp only [pvR] at hf
          simp (config := {maxSteps := 4000000}) only [U_ref13_Ledger_Open, d1, d2, d3, d4, pvR, reduceIte, reduceCtorEq, Nat.reduceEqDiff, Nat.reduceAdd, Int.reduceLT, Int.reduceLE, Int.reduceNeg, Int.reduceEq, Nat.reduceLT, Nat.reduceSub, Nat.reduceMul, Nat.reduceBEq, Nat.reduceLeDiff, Int.reduceBEq, Int.reduceBNe, Int.reduceToNat, ne_eq, implies_true, bA]
          refine callI hf ?_
          cases hg : getA id A with
          | some a =>
            obtain ⟨i, hi, _⟩ := getA_idx hg
            have hfi : findI id A = (i : Int) := by rw [findI, hi]
            have d5 : decide (0 ≤ (i : Int)) = true := by simp
            simp (config := {maxSteps := 4000000}) only [U_ref13_Ledger_Open, hfi, d5, reduceIte, reduceCtorEq, Nat.reduceEqDiff, Nat.reduceAdd, Int.reduceLT, Int.reduceLE, Int.reduceNeg, Int.reduceEq, Nat.reduceLT, Nat.reduceSub, Nat.reduceMul, Nat.reduceBEq, Nat.reduceLeDiff, Int.reduceBEq, Int.reduceBNe, Int.reduceToNat, ne_eq, implies_true, bA]
          | none =>
            have hfi : findI id A = -1 := by rw [findI, getA_idxN hg]
            by_cases c6 : 8 ≤ A.length
            · have d6 : decide ((8 : Int) ≤ (A.length : Int)) = true := by simp; omega
              simp only [c6, if_true]
              simp (config := {maxSteps := 4000000}) only [U_ref13_Ledger_Open, hfi, d6, reduceIte, reduceCtorEq, Nat.reduceEqDiff, Nat.reduceAdd, Int.reduceLT, Int.reduceLE, Int.reduceNeg, Int.reduceEq, Nat.reduceLT, Nat.reduceSub, Nat.reduceMul, Nat.reduceBEq, Nat.reduceLeDiff, Int.reduceBEq, Int.reduceBNe, Int.reduceToNat, ne_eq, implies_true, bA]
            · have d6 : decide ((8 : Int) ≤ (A.length : Int)) = false := by simp; omega
              simp only [c6, if_false]
              have hw := with_spec cap A ⟨id, size, 0⟩ (by omega)
              simp only [pvR, row3] at hw
              simp (config := {maxSteps := 4000000}) only [U_ref13_Ledger_Open, hfi, d6, reduceIte, reduceCtorEq, Nat.reduceEqDiff, Nat.reduceAdd, Int.reduceLT, Int.reduceLE, Int.reduceNeg, Int.reduceEq, Nat.reduceLT, Nat.reduceSub, Nat.reduceMul, Nat.reduceBEq, Nat.reduceLeDiff, Int.reduceBEq, Int.reduceBNe, Int.reduceToNat, ne_eq, implies_true, bA]
              refine callI hw ?_
              simp (config := {maxSteps := 4000000}) only [U_ref13_Ledger_Open, row3, reduceIte, reduceCtorEq, Nat.reduceEqDiff, Nat.reduceAdd, Int.reduceLT, Int.reduceLE, Int.reduceNeg, Int.reduceEq, Nat.reduceLT, Nat.reduceSub, Nat.reduceMul, Nat.reduceBEq, Nat.reduceLeDiff, Int.reduceBEq, Int.reduceBNe, Int.reduceToNat, ne_eq, implies_true, bA]
theorem rclose_spec (cap : Int) (A : List Acc) (hk : LedOk cap A) (id : Int) : PCall Try.prog 28 [pvR cap A, .int .i64 id] (.tup [pvR cap (closeS A id).1, .int .i64 (closeS A id).2.1, .int .i64 (closeS A id).2.2]) := by
  refine pcall_go Try.func28 comp_ref13_Ledger_Close ?_
  have hl := hk.len
  unfold closeS
  have hf := find_spec cap A id (by omega)
  simp only [pvR] at hf
  simp (config := {maxSteps := 4000000}) only [U_ref13_Ledger_Close, pvR, reduceIte, reduceCtorEq, Nat.reduceEqDiff, Nat.reduceAdd, Int.reduceLT, Int.reduceLE, Int.reduceNeg, Int.reduceEq, Nat.reduceLT, Nat.reduceSub, Nat.reduceMul, Nat.reduceBEq, Nat.reduceLeDiff, Int.reduceBEq, Int.reduceBNe, Int.reduceToNat, ne_eq, implies_true, bA]
  refine callI hf ?_
  cases hg : getA id A with
  | some a =>
    obtain ⟨i, hi, hlt, hia⟩ := getA_idx hg
    have hfi : findI id A = (i : Int) := by rw [findI, hi]
    have d5 : decide ((i : Int) < 0) = false := by simp
    have hw := without_spec cap A id (by omega)
    simp only [pvR] at hw
    have isl := fun ob fb => islV_map (ob := ob) (fb := fb) (k := .i64) (g := row3) hlt (row3_len _)
    rw [hia] at isl
    simp (config := {maxSteps := 4000000}) only [U_ref13_Ledger_Close, hfi, d5, reduceIte, reduceCtorEq, Nat.reduceEqDiff, Nat.reduceAdd, Int.reduceLT, Int.reduceLE, Int.reduceNeg, Int.reduceEq, Nat.reduceLT, Nat.reduceSub, Nat.reduceMul, Nat.reduceBEq, Nat.reduceLeDiff, Int.reduceBEq, Int.reduceBNe, Int.reduceToNat, ne_eq, implies_true, bA]
    refine callI hw ?_
    simp (config := {maxSteps := 4000000}) only [U_ref13_Ledger_Close, isl, row3, AOps_tg, reduceIte, reduceCtorEq, Nat.reduceEqDiff, Nat.reduceAdd, Int.reduceLT, Int.reduceLE, Int.reduceNeg, Int.reduceEq, Nat.reduceLT, Nat.reduceSub, Nat.reduceMul, Nat.reduceBEq, Nat.reduceLeDiff, Int.reduceBEq, Int.reduceBNe, Int.reduceToNat, ne_eq, implies_true, bA]
  | none =>
    have hfi : findI id A = -1 := by rw [findI, getA_idxN hg]
    simp (config := {maxSteps := 4000000}) only [U_ref13_Ledger_Close, hfi, reduceIte, reduceCtorEq, Nat.reduceEqDiff, Nat.reduceAdd, Int.reduceLT, Int.reduceLE, Int.reduceNeg, Int.reduceEq, Nat.reduceLT, Nat.reduceSub, Nat.reduceMul, Nat.reduceBEq, Nat.reduceLeDiff, Int.reduceBEq, Int.reduceBNe, Int.reduceToNat, ne_eq, implies_true, bA]
theorem rresize_spec (cap : Int) (A : List Acc) (hk : LedOk cap A) (id size : Int) : PCall Try.prog 29 [pvR cap A, .int .i64 id, .int .i64 size] (.tup [pvR cap (resizeS A id size).1, .int .i64 (resizeS A id size).2]) := by
  refine pcall_go Try.func29 comp_ref13_Ledger_Resize ?_
  have hl := hk.len
  unfold resizeS
  by_cases c3 : size < 0
  · have d3 : decide (size < 0) = true := by simpa using c3
    rw [if_pos (.inl c3)]
    simp (config := {maxSteps := 4000000}) only [U_ref13_Ledger_Resize, d3, pvR, reduceIte, reduceCtorEq, Nat.reduceEqDiff, Nat.reduceAdd, Int.reduceLT, Int.reduceLE, Int.reduceNeg, Int.reduceEq, Nat.reduceLT, Nat.reduceSub, Nat.reduceMul, Nat.reduceBEq, Nat.reduceLeDiff, Int.reduceBEq, Int.reduceBNe, Int.reduceToNat, ne_eq, implies_true, bA]
  · have d3 : decide (size < 0) = false := by simpa using c3
    by_cases c4 : 16777216 < size
    · have d4 : decide (16777216 < size) = true := by simpa using c4
      rw [if_pos (.inr c4)]
      simp (config := {maxSteps := 4000000}) only [U_ref13_Ledger_Resize, d3, d4, pvR, reduceIte, reduceCtorEq, Nat.reduceEqDiff, Nat.reduceAdd, Int.reduceLT, Int.reduceLE, Int.reduceNeg, Int.reduceEq, Nat.reduceLT, Nat.reduceSub, Nat.reduceMul, Nat.reduceBEq, Nat.reduceLeDiff, Int.reduceBEq, Int.reduceBNe, Int.reduceToNat, ne_eq, implies_true, bA]
    · have d4 : decide (16777216 < size) = false := by simpa using c4
      rw [if_neg (show ¬ (size < 0 ∨ 16777216 < size) by omega)]
      have hf := find_spec cap A id (by omega)
      simp only [pvR] at hf
      simp (config := {maxSteps := 4000000}) only [U_ref13_Ledger_Resize, d3, d4, pvR, reduceIte, reduceCtorEq, Nat.reduceEqDiff, Nat.reduceAdd, Int.reduceLT, Int.reduceLE, Int.reduceNeg, Int.reduceEq, Nat.reduceLT, Nat.reduceSub, Nat.reduceMul, Nat.reduceBEq, Nat.reduceLeDiff, Int.reduceBEq, Int.reduceBNe, Int.reduceToNat, ne_eq, implies_true, bA]
      refine callI hf ?_
      cases hg : getA id A with
      | some a =>
        obtain ⟨i, hi, hlt, hia⟩ := getA_idx hg
        have hfi : findI id A = (i : Int) := by rw [findI, hi]
        have d5 : decide ((i : Int) < 0) = false := by simp
        have hw := without_spec cap A id (by omega)
        simp only [pvR] at hw
        have isl := fun ob fb => islV_map (ob := ob) (fb := fb) (k := .i64) (g := row3) hlt (row3_len _)
        rw [hia] at isl
        have hdl : (delA id A).length ≤ 1000000 := by have := delA_len hk.srt (getA_some hg).1; rw [(getA_some hg).2] at this; omega
        have hx := with_spec cap (delA id A) ⟨id, size, a.used⟩ hdl
        simp only [pvR, row3] at hx
        simp (config := {maxSteps := 4000000}) only [U_ref13_Ledger_Resize, hfi, d5, reduceIte, reduceCtorEq, Nat.reduceEqDiff, Nat.reduceAdd, Int.reduceLT, Int.reduceLE, Int.reduceNeg, Int.reduceEq, Nat.reduceLT, Nat.reduceSub, Nat.reduceMul, Nat.reduceBEq, Nat.reduceLeDiff, Int.reduceBEq, Int.reduceBNe, Int.reduceToNat, ne_eq, implies_true, bA]
        refine callI hw ?_
        simp (config := {maxSteps := 4000000}) only [U_ref13_Ledger_Resize, isl, row3, reduceIte, reduceCtorEq, Nat.reduceEqDiff, Nat.reduceAdd, Int.reduceLT, Int.reduceLE, Int.reduceNeg, Int.reduceEq, Nat.reduceLT, Nat.reduceSub, Nat.reduceMul, Nat.reduceBEq, Nat.reduceLeDiff, Int.reduceBEq, Int.reduceBNe, Int.reduceToNat, ne_eq, implies_true, bA]
        refine callI hx ?_
        simp (config := {maxSteps := 4000000}) only [U_ref13_Ledger_Resize, row3, reduceIte, reduceCtorEq, Nat.reduceEqDiff, Nat.reduceAdd, Int.reduceLT, Int.reduceLE, Int.reduceNeg, Int.reduceEq, Nat.reduceLT, Nat.reduceSub, Nat.reduceMul, Nat.reduceBEq, Nat.reduceLeDiff, Int.reduceBEq, Int.reduceBNe, Int.reduceToNat, ne_eq, implies_true, bA]
      | none =>
        have hfi : findI id A = -1 := by rw [findI, getA_idxN hg]
        simp (config := {maxSteps := 4000000}) only [U_ref13_Ledger_Resize, hfi, reduceIte, reduceCtorEq, Nat.reduceEqDiff, Nat.reduceAdd, Int.reduceLT, Int.reduceLE, Int.reduceNeg, Int.reduceEq, Nat.reduceLT, Nat.reduceSub, Nat.reduceMul, Nat.reduceBEq, Nat.reduceLeDiff, Int.reduceBEq, Int.reduceBNe, Int.reduceToNat, ne_eq, implies_true, bA]
theorem rcharge_spec (cap : Int) (A : List Acc) (hk : LedOk cap A) (id n : Int) : PCall Try.prog 30 [pvR cap A, .int .i64 id, .int .i64 n] (.tup [pvR cap (chargeS cap A id n).1, .int .i64 (chargeS cap A id n).2]) := by
  refine pcall_go Try.func30 comp_ref13_Ledger_Charge ?_
  have hl := hk.len
  unfold chargeS
  by_cases c3 : n < 0
  · have d3 : decide (n < 0) = true := by simpa using c3
    rw [if_pos c3]
    simp (config := {maxSteps := 4000000}) only [U_ref13_Ledger_Charge, d3, pvR, reduceIte, reduceCtorEq, Nat.reduceEqDiff, Nat.reduceAdd, Int.reduceLT, Int.reduceLE, Int.reduceNeg, Int.reduceEq, Nat.reduceLT, Nat.reduceSub, Nat.reduceMul, Nat.reduceBEq, Nat.reduceLeDiff, Int.reduceBEq, Int.reduceBNe, Int.reduceToNat, ne_eq, implies_true, bA]
  · have d3 : decide (n < 0) = false := by simpa using c3
    rw [if_neg c3]
    have hf := find_spec cap A id (by omega)
    simp only [pvR] at hf
    simp (config := {maxSteps := 4000000}) only [U_ref13_Ledger_Charge, d3, pvR, reduceIte, reduceCtorEq, Nat.reduceEqDiff, Nat.reduceAdd, Int.reduceLT, Int.reduceLE, Int.reduceNeg, Int.reduceEq, Nat.reduceLT, Nat.reduceSub, Nat.reduceMul, Nat.reduceBEq, Nat.reduceLeDiff, Int.reduceBEq, Int.reduceBNe, Int.reduceToNat, ne_eq, implies_true, bA]
    refine callI hf ?_
    cases hg : getA id A with
    | some a =>
      obtain ⟨i, hi, hlt, hia⟩ := getA_idx hg
      have hfi : findI id A = (i : Int) := by rw [findI, hi]
      have d5 : decide ((i : Int) < 0) = false := by simp
      have ht := rtotal_spec cap A hk
      simp only [pvR] at ht
      have h0 := sumA_nn hk.use
      have h1 := hk.c0
      have h2 := hk.c1
      have h3 := hk.sum
      have e1 : IntKind.i64.wrap (cap - sumA A) = cap - sumA A := wrapI (by omega) (by omega)
      simp (config := {maxSteps := 4000000}) only [U_ref13_Ledger_Charge, hfi, d5, reduceIte, reduceCtorEq, Nat.reduceEqDiff, Nat.reduceAdd, Int.reduceLT, Int.reduceLE, Int.reduceNeg, Int.reduceEq, Nat.reduceLT, Nat.reduceSub, Nat.reduceMul, Nat.reduceBEq, Nat.reduceLeDiff, Int.reduceBEq, Int.reduceBNe, Int.reduceToNat, ne_eq, implies_true, bA]
      refine callI ht ?_
      by_cases c2 : cap - sumA A < n
      · have d2 : decide (cap - sumA A < n) = true := by simpa using c2
        simp only [c2, if_true]
        simp (config := {maxSteps := 4000000}) only [U_ref13_Ledger_Charge, e1, d2, reduceIte, reduceCtorEq, Nat.reduceEqDiff, Nat.reduceAdd, Int.reduceLT, Int.reduceLE, Int.reduceNeg, Int.reduceEq, Nat.reduceLT, Nat.reduceSub, Nat.reduceMul, Nat.reduceBEq, Nat.reduceLeDiff, Int.reduceBEq, Int.reduceBNe, Int.reduceToNat, ne_eq, implies_true, bA]
      · have d2 : decide (cap - sumA A < n) = false := by simpa using c2
        have hin := (getA_some hg).1
        have hu := hk.use _ hin
        have hle := hk.le hin
        have e2 : IntKind.i64.wrap (a.used + n) = a.used + n := wrapI (by omega) (by omega)
        have hw := without_spec cap A id (by omega)
        simp only [pvR] at hw
        have isl := fun ob fb => islV_map (ob := ob) (fb := fb) (k := .i64) (g := row3) hlt (row3_len _)
        rw [hia] at isl
        have hdl : (delA id A).length ≤ 1000000 := by have := delA_len hk.srt (getA_some hg).1; rw [(getA_some hg).2] at this; omega
        have hx := with_spec cap (delA id A) ⟨id, a.size, a.used + n⟩ hdl
        simp only [pvR, row3] at hx
        simp only [c2, if_false]
        simp (config := {maxSteps := 4000000}) only [U_ref13_Ledger_Charge, e1, d2, reduceIte, reduceCtorEq, Nat.reduceEqDiff, Nat.reduceAdd, Int.reduceLT, Int.reduceLE, Int.reduceNeg, Int.reduceEq, Nat.reduceLT, Nat.reduceSub, Nat.reduceMul, Nat.reduceBEq, Nat.reduceLeDiff, Int.reduceBEq, Int.reduceBNe, Int.reduceToNat, ne_eq, implies_true, bA]
        refine callI hw ?_
        simp (config := {maxSteps := 4000000}) only [U_ref13_Ledger_Charge, isl, row3, e2, reduceIte, reduceCtorEq, Nat.reduceEqDiff, Nat.reduceAdd, Int.reduceLT, Int.reduceLE, Int.reduceNeg, Int.reduceEq, Nat.reduceLT, Nat.reduceSub, Nat.reduceMul, Nat.reduceBEq, Nat.reduceLeDiff, Int.reduceBEq, Int.reduceBNe, Int.reduceToNat, ne_eq, implies_true, bA]
        refine callI hx ?_
        simp (config := {maxSteps := 4000000}) only [U_ref13_Ledger_Charge, row3, reduceIte, reduceCtorEq, Nat.reduceEqDiff, Nat.reduceAdd, Int.reduceLT, Int.reduceLE, Int.reduceNeg, Int.reduceEq, Nat.reduceLT, Nat.reduceSub, Nat.reduceMul, Nat.reduceBEq, Nat.reduceLeDiff, Int.reduceBEq, Int.reduceBNe, Int.reduceToNat, ne_eq, implies_true, bA]
    | none =>
      have hfi : findI id A = -1 := by rw [findI, getA_idxN hg]
      simp (config := {maxSteps := 4000000}) only [U_ref13_Ledger_Charge, hfi, reduceIte, reduceCtorEq, Nat.reduceEqDiff, Nat.reduceAdd, Int.reduceLT, Int.reduceLE, Int.reduceNeg, Int.reduceEq, Nat.reduceLT, Nat.reduceSub, Nat.reduceMul, Nat.reduceBEq, Nat.reduceLeDiff, Int.reduceBEq, Int.reduceBNe, Int.reduceToNat, ne_eq, implies_true, bA]
theorem rcredit_spec (cap : Int) (A : List Acc) (hk : LedOk cap A) (id n : Int) : PCall Try.prog 31 [pvR cap A, .int .i64 id, .int .i64 n] (.tup [pvR cap (creditS A id n).1, .int .i64 (creditS A id n).2]) := by
  refine pcall_go Try.func31 comp_ref13_Ledger_Credit ?_
  have hl := hk.len
  unfold creditS
  by_cases c3 : n < 0
  · have d3 : decide (n < 0) = true := by simpa using c3
    rw [if_pos c3]
    simp (config := {maxSteps := 4000000}) only [U_ref13_Ledger_Credit, d3, pvR, reduceIte, reduceCtorEq, Nat.reduceEqDiff, Nat.reduceAdd, Int.reduceLT, Int.reduceLE, Int.reduceNeg, Int.reduceEq, Nat.reduceLT, Nat.reduceSub, Nat.reduceMul, Nat.reduceBEq, Nat.reduceLeDiff, Int.reduceBEq, Int.reduceBNe, Int.reduceToNat, ne_eq, implies_true, bA]
  · have d3 : decide (n < 0) = false := by simpa using c3
    rw [if_neg c3]
    have hf := find_spec cap A id (by omega)
    simp only [pvR] at hf
    simp (config := {maxSteps := 4000000}) only [U_ref13_Ledger_Credit, d3, pvR, reduceIte, reduceCtorEq, Nat.reduceEqDiff, Nat.reduceAdd, Int.reduceLT, Int.reduceLE, Int.reduceNeg, Int.reduceEq, Nat.reduceLT, Nat.reduceSub, Nat.reduceMul, Nat.reduceBEq, Nat.reduceLeDiff, Int.reduceBEq, Int.reduceBNe, Int.reduceToNat, ne_eq, implies_true, bA]
    refine callI hf ?_
    cases hg : getA id A with
    | some a =>
      obtain ⟨i, hi, hlt, hia⟩ := getA_idx hg
      have hfi : findI id A = (i : Int) := by rw [findI, hi]
      have d5 : decide ((i : Int) < 0) = false := by simp
      have isl := fun ob fb => islV_map (ob := ob) (fb := fb) (k := .i64) (g := row3) hlt (row3_len _)
      rw [hia] at isl
      by_cases c2 : a.used < n
      · have d2 : decide (a.used < n) = true := by simpa using c2
        simp only [c2, if_true]
        simp (config := {maxSteps := 4000000}) only [U_ref13_Ledger_Credit, hfi, d5, isl, row3, d2, reduceIte, reduceCtorEq, Nat.reduceEqDiff, Nat.reduceAdd, Int.reduceLT, Int.reduceLE, Int.reduceNeg, Int.reduceEq, Nat.reduceLT, Nat.reduceSub, Nat.reduceMul, Nat.reduceBEq, Nat.reduceLeDiff, Int.reduceBEq, Int.reduceBNe, Int.reduceToNat, ne_eq, implies_true, bA]
      · have d2 : decide (a.used < n) = false := by simpa using c2
        have hin := (getA_some hg).1
        have hle := hk.le hin
        have h2 := hk.c1
        have h3 := hk.sum
        have e2 : IntKind.i64.wrap (a.used - n) = a.used - n := wrapI (by omega) (by omega)
        have hw := without_spec cap A id (by omega)
        simp only [pvR] at hw
        have hdl : (delA id A).length ≤ 1000000 := by have := delA_len hk.srt (getA_some hg).1; rw [(getA_some hg).2] at this; omega
        have hx := with_spec cap (delA id A) ⟨id, a.size, a.used - n⟩ hdl
        simp only [pvR, row3] at hx
        simp only [c2, if_false]
        simp (config := {maxSteps := 4000000}) only [U_ref13_Ledger_Credit, hfi, d5, isl, row3, d2, reduceIte, reduceCtorEq, Nat.reduceEqDiff, Nat.reduceAdd, Int.reduceLT, Int.reduceLE, Int.reduceNeg, Int.reduceEq, Nat.reduceLT, Nat.reduceSub, Nat.reduceMul, Nat.reduceBEq, Nat.reduceLeDiff, Int.reduceBEq, Int.reduceBNe, Int.reduceToNat, ne_eq, implies_true, bA]
        refine callI hw ?_
        simp (config := {maxSteps := 4000000}) only [U_ref13_Ledger_Credit, isl, row3, e2, reduceIte, reduceCtorEq, Nat.reduceEqDiff, Nat.reduceAdd, Int.reduceLT, Int.reduceLE, Int.reduceNeg, Int.reduceEq, Nat.reduceLT, Nat.reduceSub, Nat.reduceMul, Nat.reduceBEq, Nat.reduceLeDiff, Int.reduceBEq, Int.reduceBNe, Int.reduceToNat, ne_eq, implies_true, bA]
        refine callI hx ?_
        simp (config := {maxSteps := 4000000}) only [U_ref13_Ledger_Credit, row3, reduceIte, reduceCtorEq, Nat.reduceEqDiff, Nat.reduceAdd, Int.reduceLT, Int.reduceLE, Int.reduceNeg, Int.reduceEq, Nat.reduceLT, Nat.reduceSub, Nat.reduceMul, Nat.reduceBEq, Nat.reduceLeDiff, Int.reduceBEq, Int.reduceBNe, Int.reduceToNat, ne_eq, implies_true, bA]
    | none =>
      have hfi : findI id A = -1 := by rw [findI, getA_idxN hg]
      simp (config := {maxSteps := 4000000}) only [U_ref13_Ledger_Credit, hfi, reduceIte, reduceCtorEq, Nat.reduceEqDiff, Nat.reduceAdd, Int.reduceLT, Int.reduceLE, Int.reduceNeg, Int.reduceEq, Nat.reduceLT, Nat.reduceSub, Nat.reduceMul, Nat.reduceBEq, Nat.reduceLeDiff, Int.reduceBEq, Int.reduceBNe, Int.reduceToNat, ne_eq, implies_true, bA]
end Go.Proofs.Ytokpmpbhpafncaa.Aw
