/-
  The document's volume: finding, leaving out, putting in.; The document's volume: holes, how many, what is left.; The document's volume: how many sectors, what is left, what may be named, the bytes of a sector.; The document's volume: sectors that are laid.; The document's volume: laying, walked.
-/
import Derived.Test.YthjnfjgejdlbfaaMV
import Derived.Test.YthjnfjgejdlbfaaCodeR
set_option linter.all false
set_option linter.unusedSimpArgs false
set_option linter.unusedVariables false
namespace Go.Proofs.Ythjnfjgejdlbfaa.Aw
open Go.RowKit

def rowS (x : Sc) : List PV := [.int .i64 x.at_, .str x.dat]
theorem rowS_len (x : Sc) : (rowS x).length = 2 := rfl
def rowV (s : Spc) : List PV := [.int .i64 s.id, .int .i64 s.size, .slc (s.S.map rowS)]
theorem rowV_len (s : Spc) : (rowV s).length = 3 := rfl
def pvV (cap : Int) (L : List Spc) : PV := .agg [.int .i64 cap, .slc (L.map rowV)]
def idxV (id : Int) : List Spc → Option Nat
  | [] => none
  | a :: r => if a.id = id then some 0 else (idxV id r).map (· + 1)
def findI (id : Int) (A : List Spc) : Int :=
  match idxV id A with
  | none => -1
  | some i => i
theorem idxV_none {id : Int} : ∀ {A : List Spc}, (∀ j (h : j < A.length), A[j].id ≠ id) → idxV id A = none
  | [], _ => rfl
  | a :: r, h => by
    simp only [idxV]
    rw [if_neg (show ¬ a.id = id from h 0 (by simp)), idxV_none (A := r) fun j hj => h (j + 1) (by simpa using hj)]; rfl
theorem idxV_some {id : Int} : ∀ {A : List Spc} {i : Nat} (hi : i < A.length), A[i].id = id → (∀ j (h : j < i), (A[j]'(by omega)).id ≠ id) → idxV id A = some i
  | [], i, hi, _, _ => by simp at hi
  | a :: r, 0, hi, h, _ => by simp only [idxV]; rw [if_pos (show a.id = id from h)]
  | a :: r, i + 1, hi, h, hn => by
    simp only [idxV]
    rw [if_neg (show ¬ a.id = id from hn 0 (by omega)), idxV_some (A := r) (i := i) (by simpa using hi) (by simpa using h) fun j hj => by have := hn (j + 1) (by omega); simpa using this]; rfl
theorem getG_idx {id : Int} : ∀ {A : List Spc} {a : Spc}, getG id A = some a → ∃ i, idxV id A = some i ∧ ∃ h : i < A.length, A[i] = a
  | [], a, h => by cases h
  | x :: r, a, h => by
    simp only [getG] at h
    simp only [idxV]
    split at h
    · rename_i e; cases h; rw [if_pos (show x.id = id from e)]; exact ⟨0, rfl, by simp, rfl⟩
    · rename_i e
      obtain ⟨i, h1, h2, h3⟩ := getG_idx h
      rw [if_neg (show ¬ x.id = id from e), h1]
      exact ⟨i + 1, rfl, by simpa using h2, by simpa using h3⟩
theorem getG_idxN {id : Int} : ∀ {A : List Spc}, getG id A = none → idxV id A = none
  | [], _ => rfl
  | x :: r, h => by
    simp only [getG] at h
    simp only [idxV]
    split at h
    · cases h
    · rename_i e; rw [if_neg (show ¬ x.id = id from e), getG_idxN h]; rfl

theorem find_spec (cap : Int) (A : List Spc) (id : Int) (hl : A.length ≤ 1000000) : PCall Try.prog 55 [pvV cap A, .int .i64 id] (.int .i64 (findI id A)) := by
  refine pcall_go Try.func55 comp_ref14_Vol_Find ?_
  simp (config := {maxSteps := 4000000}) only [U_ref14_Vol_Find, pvV, reduceIte, reduceCtorEq, Nat.reduceEqDiff, Nat.reduceAdd, Int.reduceLT, Int.reduceLE, Int.reduceNeg, Int.reduceEq, Nat.reduceLT, Nat.reduceSub, Nat.reduceMul, Nat.reduceBEq, Nat.reduceLeDiff, Int.reduceBEq, Int.reduceBNe, Int.reduceToNat, ne_eq, implies_true, bA]
  refine loopF (fun i : Nat => ⟨ofL [(1, .int .i64 id), (2, .ref 0 0), (5, .int .i64 (i : Int))], [.box [.int .i64 cap, .slc (A.map rowV)]]⟩) (fun i => i ≤ A.length ∧ ∀ j (h : j < A.length), j < i → A[j].id ≠ id) (fun i => A.length - i) 0 ?_ ⟨Nat.zero_le _, fun j _ h => absurd h (Nat.not_lt_zero _)⟩ ?_
  · simp (config := {maxSteps := 4000000}) only [U_ref14_Vol_Find, reduceIte, reduceCtorEq, Nat.reduceEqDiff, Nat.reduceAdd, Int.reduceLT, Int.reduceLE, Int.reduceNeg, Int.reduceEq, Nat.reduceLT, Nat.reduceSub, Nat.reduceMul, Nat.reduceBEq, Nat.reduceLeDiff, Int.reduceBEq, Int.reduceBNe, Int.reduceToNat, ne_eq, implies_true, bA]
    all_goals rfl
  · rintro i ⟨hi, hn⟩
    by_cases h : i < A.length
    · have d : decide ((i : Int) < (A.length : Int)) = true := by simpa using h
      have e1 : IntKind.i64.wrap ((i : Int) + 1) = ((i + 1 : Nat) : Int) := by rw [wrapI (by omega) (by omega)]; omega
      by_cases hid : A[i].id = id
      · have d2 : (A[i].id == id) = true := by simpa using hid
        have hf : findI id A = (i : Int) := by rw [findI, idxV_some h hid fun j hj => hn j (by omega) hj]
        simp (config := {maxSteps := 4000000}) only [U_ref14_Vol_Find, d, islV_map (g := rowV) h (rowV_len _), rowV, d2, hf, reduceIte, reduceCtorEq, Nat.reduceEqDiff, Nat.reduceAdd, Int.reduceLT, Int.reduceLE, Int.reduceNeg, Int.reduceEq, Nat.reduceLT, Nat.reduceSub, Nat.reduceMul, Nat.reduceBEq, Nat.reduceLeDiff, Int.reduceBEq, Int.reduceBNe, Int.reduceToNat, ne_eq, implies_true, bA]
      · have d2 : (A[i].id == id) = false := by simpa using hid
        simp (config := {maxSteps := 4000000}) only [U_ref14_Vol_Find, d, islV_map (g := rowV) h (rowV_len _), rowV, d2, e1, reduceIte, reduceCtorEq, Nat.reduceEqDiff, Nat.reduceAdd, Int.reduceLT, Int.reduceLE, Int.reduceNeg, Int.reduceEq, Nat.reduceLT, Nat.reduceSub, Nat.reduceMul, Nat.reduceBEq, Nat.reduceLeDiff, Int.reduceBEq, Int.reduceBNe, Int.reduceToNat, ne_eq, implies_true, bA]
        refine ⟨i + 1, rfl, ⟨h, fun j hj hji => ?_⟩, by omega⟩
        by_cases e : j = i
        · subst e; exact hid
        · exact hn j hj (by omega)
    · have d : decide ((i : Int) < (A.length : Int)) = false := by simpa using h
      have hf : findI id A = -1 := by rw [findI, idxV_none fun j hj => hn j hj (by omega)]
      simp (config := {maxSteps := 4000000}) only [U_ref14_Vol_Find, d, hf, reduceIte, reduceCtorEq, Nat.reduceEqDiff, Nat.reduceAdd, Int.reduceLT, Int.reduceLE, Int.reduceNeg, Int.reduceEq, Nat.reduceLT, Nat.reduceSub, Nat.reduceMul, Nat.reduceBEq, Nat.reduceLeDiff, Int.reduceBEq, Int.reduceBNe, Int.reduceToNat, ne_eq, implies_true, bA]
theorem delG_app {id : Int} : ∀ (l m : List Spc), delG id (l ++ m) = delG id l ++ delG id m
  | [], m => rfl
  | a :: r, m => by
    simp only [List.cons_append, delG]
    split
    · exact delG_app r m
    · rw [delG_app r m]; rfl
theorem without_spec (cap : Int) (A : List Spc) (id : Int) (hl : A.length ≤ 1000000) : PCall Try.prog 58 [pvV cap A, .int .i64 id] (pvV cap (delG id A)) := by
  refine pcall_go Try.func58 comp_ref14_Vol_without ?_
  simp (config := {maxSteps := 4000000}) only [U_ref14_Vol_without, pvV, reduceIte, reduceCtorEq, Nat.reduceEqDiff, Nat.reduceAdd, Int.reduceLT, Int.reduceLE, Int.reduceNeg, Int.reduceEq, Nat.reduceLT, Nat.reduceSub, Nat.reduceMul, Nat.reduceBEq, Nat.reduceLeDiff, Int.reduceBEq, Int.reduceBNe, Int.reduceToNat, ne_eq, implies_true, bA]
  refine loopF (fun i : Nat => ⟨ofL [(1, .int .i64 id), (2, .ref 0 0), (4, .ref 1 0), (5, .osl 2 0 (delG id (A.take i)).length), (6, .int .i64 (i : Int))], [.box [.int .i64 cap, .slc (A.map rowV)], .box [.int .i64 0, .slc []], .list 3 ((delG id (A.take i)).map rowV)]⟩) (fun i => i ≤ A.length) (fun i => A.length - i) 0 ?_ (Nat.zero_le _) ?_
  · simp (config := {maxSteps := 4000000}) only [U_ref14_Vol_without, reduceIte, reduceCtorEq, Nat.reduceEqDiff, Nat.reduceAdd, Int.reduceLT, Int.reduceLE, Int.reduceNeg, Int.reduceEq, Nat.reduceLT, Nat.reduceSub, Nat.reduceMul, Nat.reduceBEq, Nat.reduceLeDiff, Int.reduceBEq, Int.reduceBNe, Int.reduceToNat, ne_eq, implies_true, bA]
    all_goals rfl
  · intro i hi
    have hdl : (delG id (A.take i)).length ≤ A.length := by
      have h1 : ∀ l : List Spc, (delG id l).length ≤ l.length := by
        intro l
        induction l with
        | nil => simp [delG]
        | cons a r ih => simp only [delG]; split <;> simp <;> omega
      have := h1 (A.take i); simp at this; omega
    by_cases h : i < A.length
    · have d : decide ((i : Int) < (A.length : Int)) = true := by simpa using h
      have e1 : IntKind.i64.wrap ((i : Int) + 1) = ((i + 1 : Nat) : Int) := by rw [wrapI (by omega) (by omega)]; omega
      by_cases hid : A[i].id = id
      · have d2 : (A[i].id != id) = false := by simpa using hid
        have hd : delG id (A.take (i + 1)) = delG id (A.take i) := by
          rw [List.take_succ_eq_append_getElem h, delG_app]; simp [delG, key_spc, hid]
        simp (config := {maxSteps := 4000000}) only [U_ref14_Vol_without, d, islV_map (g := rowV) h (rowV_len _), rowV, d2, e1, reduceIte, reduceCtorEq, Nat.reduceEqDiff, Nat.reduceAdd, Int.reduceLT, Int.reduceLE, Int.reduceNeg, Int.reduceEq, Nat.reduceLT, Nat.reduceSub, Nat.reduceMul, Nat.reduceBEq, Nat.reduceLeDiff, Int.reduceBEq, Int.reduceBNe, Int.reduceToNat, ne_eq, implies_true, bA]
        exact ⟨i + 1, by rw [hd], h, by omega⟩
      · have d2 : (A[i].id != id) = true := by simpa using hid
        have hd : delG id (A.take (i + 1)) = delG id (A.take i) ++ [A[i]] := by
          rw [List.take_succ_eq_append_getElem h, delG_app]; simp [delG, key_spc, hid]
        have ha : appO [.box [.int .i64 cap, .slc (A.map rowV)], .box [.int .i64 0, .slc []], .list 3 ((delG id (A.take i)).map rowV)] [] none 3 (.osl 2 0 (delG id (A.take i)).length) (some [[.int .i64 A[i].id, .int .i64 A[i].size, .slc (A[i].S.map rowS)]]) =
            some (.osl 2 0 (delG id (A.take (i + 1))).length, [.box [.int .i64 cap, .slc (A.map rowV)], .box [.int .i64 0, .slc []], .list 3 ((delG id (A.take (i + 1))).map rowV)]) := by
          have := app_map (ob := [.box [.int .i64 cap, .slc (A.map rowV)], .box [.int .i64 0, .slc []], .list 3 ((delG id (A.take i)).map rowV)]) (fb := []) (nw := none) (o := 2) (n := (delG id (A.take i)).length) (e := 3) (g := rowV) (l := delG id (A.take i)) (m := [A[i]]) rfl rfl rfl (by omega) (by simp) rowV_len
          rw [hd, List.length_append]
          exact this
        simp (config := {maxSteps := 4000000}) only [U_ref14_Vol_without, d, islV_map (g := rowV) h (rowV_len _), rowV, d2, ha, e1, reduceIte, reduceCtorEq, Nat.reduceEqDiff, Nat.reduceAdd, Int.reduceLT, Int.reduceLE, Int.reduceNeg, Int.reduceEq, Nat.reduceLT, Nat.reduceSub, Nat.reduceMul, Nat.reduceBEq, Nat.reduceLeDiff, Int.reduceBEq, Int.reduceBNe, Int.reduceToNat, ne_eq, implies_true, bA]
        exact ⟨i + 1, rfl, h, by omega⟩
    · have d : decide ((i : Int) < (A.length : Int)) = false := by simpa using h
      have hA : A.take i = A := List.take_of_length_le (by omega)
      have hr : rowsO (some (AObj.list 3 ((delG id A).map rowV))) 0 (delG id A).length = some ((delG id A).map rowV) := rowsO_all (by simp)
      simp (config := {maxSteps := 4000000}) only [U_ref14_Vol_without, d, hA, hr, reduceIte, reduceCtorEq, Nat.reduceEqDiff, Nat.reduceAdd, Int.reduceLT, Int.reduceLE, Int.reduceNeg, Int.reduceEq, Nat.reduceLT, Nat.reduceSub, Nat.reduceMul, Nat.reduceBEq, Nat.reduceLeDiff, Int.reduceBEq, Int.reduceBNe, Int.reduceToNat, ne_eq, implies_true, bA]
/-- What 'with' has made of the first so many. -/
def putB (a : Spc) (l : List Spc) : Bool := l.any fun y => decide (a.id < y.id)
def putL (a : Spc) (l : List Spc) : List Spc := if putB a l = true then insG a l else l
theorem insG_no {a : Spc} : ∀ {l : List Spc} (m : List Spc), putB a l = false → insG a (l ++ m) = l ++ insG a m
  | [], m, _ => rfl
  | x :: r, m, h => by
    simp only [putB, List.any_cons, Bool.or_eq_false_iff, decide_eq_false_iff_not] at h
    simp only [List.cons_append, insG, key_spc]
    rw [if_neg h.1, insG_no m h.2]
theorem insG_yes {a : Spc} : ∀ {l : List Spc} (m : List Spc), putB a l = true → insG a (l ++ m) = insG a l ++ m
  | [], m, h => by simp [putB] at h
  | x :: r, m, h => by
    simp only [List.cons_append, insG, key_spc]
    by_cases hx : a.id < x.id
    · rw [if_pos hx, if_pos hx]; rfl
    · rw [if_neg hx, if_neg hx, insG_yes m (by simpa [putB, hx] using h)]; rfl
theorem putL_len (a : Spc) (l : List Spc) : (putL a l).length ≤ l.length + 1 := by
  unfold putL; split
  · rw [insG_len]; omega
  · omega
theorem with_spec (cap : Int) (A0 : List Spc) (a : Spc) (hl0 : A0.length ≤ 1000000) (hla : (delG a.id A0).length ≤ 1000000) : PCall Try.prog 56 [pvV cap A0, .agg (rowV a)] (pvV cap (putV A0 a)) := by
  refine pcall_dr Try.func56 comp_ref14_Vol_with ?_
  have hw := without_spec cap A0 a.id hl0
  unfold putV
  generalize delG a.id A0 = A at hw hla ⊢
  have hl := hla
  simp only [pvV] at hw
  simp (config := {maxSteps := 4000000}) only [U_ref14_Vol_with, pvV, rowV, reduceIte, reduceCtorEq, Nat.reduceEqDiff, Nat.reduceAdd, Int.reduceLT, Int.reduceLE, Int.reduceNeg, Int.reduceEq, Nat.reduceLT, Nat.reduceSub, Nat.reduceMul, Nat.reduceBEq, Nat.reduceLeDiff, Int.reduceBEq, Int.reduceBNe, Int.reduceToNat, ne_eq, implies_true, bA]
  refine callI hw ?_
  simp (config := {maxSteps := 4000000}) only [U_ref14_Vol_with, reduceIte, reduceCtorEq, Nat.reduceEqDiff, Nat.reduceAdd, Int.reduceLT, Int.reduceLE, Int.reduceNeg, Int.reduceEq, Nat.reduceLT, Nat.reduceSub, Nat.reduceMul, Nat.reduceBEq, Nat.reduceLeDiff, Int.reduceBEq, Int.reduceBNe, Int.reduceToNat, ne_eq, implies_true, bA]
  refine loopF (fun i : Nat => ⟨ofL [(3, .ref 1 0), (4, .ref 2 0), (5, .ref 3 0), (6, .osl 4 0 (putL a (A.take i)).length), (7, .bool (putB a (A.take i))), (8, .int .i64 (i : Int))], [.box [.int .i64 cap, .slc (A0.map rowV)], .box [.int .i64 a.id, .int .i64 a.size, .slc (a.S.map rowS)], .box [.int .i64 0, .slc []], .box [.int .i64 cap, .slc (A.map rowV)], .list 3 ((putL a (A.take i)).map rowV)]⟩) (fun i => i ≤ A.length) (fun i => A.length - i) 0 ?_ (Nat.zero_le _) ?_
  · simp (config := {maxSteps := 4000000}) only [U_ref14_Vol_with, reduceIte, reduceCtorEq, Nat.reduceEqDiff, Nat.reduceAdd, Int.reduceLT, Int.reduceLE, Int.reduceNeg, Int.reduceEq, Nat.reduceLT, Nat.reduceSub, Nat.reduceMul, Nat.reduceBEq, Nat.reduceLeDiff, Int.reduceBEq, Int.reduceBNe, Int.reduceToNat, ne_eq, implies_true, bA]
    all_goals rfl
  · intro i hi
    have hpl := putL_len a (A.take i)
    have htl : (A.take i).length ≤ A.length := by simp; omega
    have app : ∀ (l : List Spc) (x : Spc) (n : Nat), n = l.length → l.length ≤ 2000000 → appO [.box [.int .i64 cap, .slc (A0.map rowV)], .box [.int .i64 a.id, .int .i64 a.size, .slc (a.S.map rowS)], .box [.int .i64 0, .slc []], .box [.int .i64 cap, .slc (A.map rowV)], .list 3 (l.map rowV)] [] none 3 (.osl 4 0 n) (some [[.int .i64 x.id, .int .i64 x.size, .slc (x.S.map rowS)]]) =
        some (.osl 4 0 (n + 1), [.box [.int .i64 cap, .slc (A0.map rowV)], .box [.int .i64 a.id, .int .i64 a.size, .slc (a.S.map rowS)], .box [.int .i64 0, .slc []], .box [.int .i64 cap, .slc (A.map rowV)], .list 3 ((l ++ [x]).map rowV)]) := by
      intro l x n hn hlx
      subst hn
      have := app_map (ob := [.box [.int .i64 cap, .slc (A0.map rowV)], .box [.int .i64 a.id, .int .i64 a.size, .slc (a.S.map rowS)], .box [.int .i64 0, .slc []], .box [.int .i64 cap, .slc (A.map rowV)], .list 3 (l.map rowV)]) (fb := []) (nw := none) (o := 4) (n := l.length) (e := 3) (g := rowV) (l := l) (m := [x]) rfl rfl rfl (by omega) (by simp) rowV_len
      exact this
    by_cases h : i < A.length
    · have d : decide ((i : Int) < (A.length : Int)) = true := by simpa using h
      have e1 : IntKind.i64.wrap ((i : Int) + 1) = ((i + 1 : Nat) : Int) := by rw [wrapI (by omega) (by omega)]; omega
      have hts := List.take_succ_eq_append_getElem h
      cases hp : putB a (A.take i) with
      | true =>
        have hb : putB a (A.take (i + 1)) = true := by rw [hts]; unfold putB at hp ⊢; rw [List.any_append, hp]; rfl
        have hL : putL a (A.take (i + 1)) = putL a (A.take i) ++ [A[i]] := by
          rw [putL, putL, hb, hp, hts]; simp only [if_true]; exact insG_yes _ hp
        have a1 := app (putL a (A.take i)) A[i] _ rfl (by omega)
        simp (config := {maxSteps := 4000000}) only [U_ref14_Vol_with, d, islV_map (g := rowV) h (rowV_len _), rowV, a1, e1, reduceIte, reduceCtorEq, Nat.reduceEqDiff, Nat.reduceAdd, Int.reduceLT, Int.reduceLE, Int.reduceNeg, Int.reduceEq, Nat.reduceLT, Nat.reduceSub, Nat.reduceMul, Nat.reduceBEq, Nat.reduceLeDiff, Int.reduceBEq, Int.reduceBNe, Int.reduceToNat, ne_eq, implies_true, bA]
        exact ⟨i + 1, by rw [hb, hL, List.length_append]; rfl, h, by omega⟩
      | false =>
        have hL0 : putL a (A.take i) = A.take i := by rw [putL, hp]; rfl
        rw [hL0] at hpl ⊢
        by_cases hx : a.id < A[i].id
        · have d2 : decide (a.id < A[i].id) = true := by simpa using hx
          have hb : putB a (A.take (i + 1)) = true := by rw [hts]; unfold putB; rw [List.any_append]; simp [hx]
          have hL : putL a (A.take (i + 1)) = A.take i ++ [a] ++ [A[i]] := by
            rw [putL, hb, hts]; simp only [if_true]; rw [insG_no _ hp]; simp [insG, key_spc, hx]
          have a1 := app (A.take i) a _ rfl (by omega)
          have a2 := app (A.take i ++ [a]) A[i] ((A.take i).length + 1) (by simp) (by simp; omega)
          simp (config := {maxSteps := 4000000}) only [U_ref14_Vol_with, d, islV_map (g := rowV) h (rowV_len _), rowV, d2, a1, a2, e1, reduceIte, reduceCtorEq, Nat.reduceEqDiff, Nat.reduceAdd, Int.reduceLT, Int.reduceLE, Int.reduceNeg, Int.reduceEq, Nat.reduceLT, Nat.reduceSub, Nat.reduceMul, Nat.reduceBEq, Nat.reduceLeDiff, Int.reduceBEq, Int.reduceBNe, Int.reduceToNat, ne_eq, implies_true, bA]
          exact ⟨i + 1, by rw [hb, hL]; simp, h, by omega⟩
        · have d2 : decide (a.id < A[i].id) = false := by simpa using hx
          have hb : putB a (A.take (i + 1)) = false := by
            rw [hts]; unfold putB at hp ⊢; rw [List.any_append, hp]; simp [hx]
          have hL : putL a (A.take (i + 1)) = A.take i ++ [A[i]] := by rw [putL, hb, hts]; rfl
          have a1 := app (A.take i) A[i] _ rfl (by omega)
          simp (config := {maxSteps := 4000000}) only [U_ref14_Vol_with, d, islV_map (g := rowV) h (rowV_len _), rowV, d2, a1, e1, reduceIte, reduceCtorEq, Nat.reduceEqDiff, Nat.reduceAdd, Int.reduceLT, Int.reduceLE, Int.reduceNeg, Int.reduceEq, Nat.reduceLT, Nat.reduceSub, Nat.reduceMul, Nat.reduceBEq, Nat.reduceLeDiff, Int.reduceBEq, Int.reduceBNe, Int.reduceToNat, ne_eq, implies_true, bA]
          exact ⟨i + 1, by rw [hb, hL, List.length_append]; rfl, h, by omega⟩
    · have d : decide ((i : Int) < (A.length : Int)) = false := by simpa using h
      have hA : A.take i = A := List.take_of_length_le (by omega)
      rw [hA]
      cases hp : putB a A with
      | true =>
        have hL : putL a A = insG a A := by rw [putL, hp]; rfl
        rw [hL]
        have hr : rowsO (some (AObj.list 3 ((insG a A).map rowV))) 0 (insG a A).length = some ((insG a A).map rowV) := rowsO_all (by simp)
        simp (config := {maxSteps := 4000000}) only [U_ref14_Vol_with, d, hr, reduceIte, reduceCtorEq, Nat.reduceEqDiff, Nat.reduceAdd, Int.reduceLT, Int.reduceLE, Int.reduceNeg, Int.reduceEq, Nat.reduceLT, Nat.reduceSub, Nat.reduceMul, Nat.reduceBEq, Nat.reduceLeDiff, Int.reduceBEq, Int.reduceBNe, Int.reduceToNat, ne_eq, implies_true, bA]
      | false =>
        have hL : putL a A = A := by rw [putL, hp]; rfl
        have hI : insG a A = A ++ [a] := by have := insG_no (a := a) (l := A) [] hp; simpa [insG] using this
        have a1 := app A a _ rfl (by omega)
        rw [hL, hI]
        have hr : rowsO (some (AObj.list 3 ((A ++ [a]).map rowV))) 0 (A.length + 1) = some ((A ++ [a]).map rowV) := rowsO_all (by simp)
        simp (config := {maxSteps := 4000000}) only [U_ref14_Vol_with, d, a1, rowV, hr, reduceIte, reduceCtorEq, Nat.reduceEqDiff, Nat.reduceAdd, Int.reduceLT, Int.reduceLE, Int.reduceNeg, Int.reduceEq, Nat.reduceLT, Nat.reduceSub, Nat.reduceMul, Nat.reduceBEq, Nat.reduceLeDiff, Int.reduceBEq, Int.reduceBNe, Int.reduceToNat, ne_eq, implies_true, bA]

theorem cutS_app (l m : List Sc) (fr to_ : Int) : cutS (l ++ m) fr to_ = cutS l fr to_ ++ cutS m fr to_ := List.filter_append ..
theorem rcut_spec (s : Spc) (fr to_ : Int) (hl : s.S.length ≤ 1000000) : PCall Try.prog 57 [.agg (rowV s), .int .i64 fr, .int .i64 to_] (.agg (rowV ⟨s.id, s.size, cutS s.S fr to_⟩)) := by
  refine pcall_dr Try.func57 comp_ref14_Space_cut ?_
  obtain ⟨id, size, S⟩ := s
  simp only at hl
  simp (config := {maxSteps := 4000000}) only [U_ref14_Space_cut, rowV, reduceIte, reduceCtorEq, Nat.reduceEqDiff, Nat.reduceAdd, Int.reduceLT, Int.reduceLE, Int.reduceNeg, Int.reduceEq, Nat.reduceLT, Nat.reduceSub, Nat.reduceMul, Nat.reduceBEq, Nat.reduceLeDiff, Int.reduceBEq, Int.reduceBNe, Int.reduceToNat, ne_eq, implies_true, bA]
  refine loopF (fun i : Nat => ⟨ofL [(1, .int .i64 fr), (2, .int .i64 to_), (3, .ref 0 0), (6, .ref 1 0), (7, .osl 2 0 (cutS (S.take i) fr to_).length), (8, .int .i64 (i : Int))], [.box [.int .i64 id, .int .i64 size, .slc (S.map rowS)], .box [.int .i64 0, .int .i64 0, .slc []], .list 2 ((cutS (S.take i) fr to_).map rowS)]⟩) (fun i => i ≤ S.length) (fun i => S.length - i) 0 ?_ (Nat.zero_le _) ?_
  · simp (config := {maxSteps := 4000000}) only [U_ref14_Space_cut, reduceIte, reduceCtorEq, Nat.reduceEqDiff, Nat.reduceAdd, Int.reduceLT, Int.reduceLE, Int.reduceNeg, Int.reduceEq, Nat.reduceLT, Nat.reduceSub, Nat.reduceMul, Nat.reduceBEq, Nat.reduceLeDiff, Int.reduceBEq, Int.reduceBNe, Int.reduceToNat, ne_eq, implies_true, bA]
    all_goals rfl
  · intro i hi
    have hcl := cutS_len (S.take i) fr to_
    have htl : (S.take i).length ≤ S.length := by simp; omega
    by_cases h : i < S.length
    · have d : decide ((i : Int) < (S.length : Int)) = true := by simpa using h
      have e1 : IntKind.i64.wrap ((i : Int) + 1) = ((i + 1 : Nat) : Int) := by rw [wrapI (by omega) (by omega)]; omega
      have isl := fun ob fb => islV_map (ob := ob) (fb := fb) (k := .i64) (g := rowS) h (rowS_len _)
      have hts := List.take_succ_eq_append_getElem h
      have app : appO [.box [.int .i64 id, .int .i64 size, .slc (S.map rowS)], .box [.int .i64 0, .int .i64 0, .slc []], .list 2 ((cutS (S.take i) fr to_).map rowS)] [] none 2 (.osl 2 0 (cutS (S.take i) fr to_).length) (some [[.int .i64 S[i].at_, .str S[i].dat]]) =
          some (.osl 2 0 (cutS (S.take i) fr to_ ++ [S[i]]).length, [.box [.int .i64 id, .int .i64 size, .slc (S.map rowS)], .box [.int .i64 0, .int .i64 0, .slc []], .list 2 ((cutS (S.take i) fr to_ ++ [S[i]]).map rowS)]) := by
        have := app_map (ob := [.box [.int .i64 id, .int .i64 size, .slc (S.map rowS)], .box [.int .i64 0, .int .i64 0, .slc []], .list 2 ((cutS (S.take i) fr to_).map rowS)]) (fb := []) (nw := none) (o := 2) (n := (cutS (S.take i) fr to_).length) (e := 2) (g := rowS) (l := cutS (S.take i) fr to_) (m := [S[i]]) rfl rfl rfl (by omega) (by simp) rowS_len
        rw [List.length_append]
        exact this
      by_cases c1 : S[i].at_ < fr
      · have d1 : decide (S[i].at_ < fr) = true := by simpa using c1
        have hc : cutS (S.take (i + 1)) fr to_ = cutS (S.take i) fr to_ ++ [S[i]] := by rw [hts, cutS_app]; simp [cutS, c1]
        simp (config := {maxSteps := 4000000}) only [U_ref14_Space_cut, d, isl, rowS, d1, e1, app, reduceIte, reduceCtorEq, Nat.reduceEqDiff, Nat.reduceAdd, Int.reduceLT, Int.reduceLE, Int.reduceNeg, Int.reduceEq, Nat.reduceLT, Nat.reduceSub, Nat.reduceMul, Nat.reduceBEq, Nat.reduceLeDiff, Int.reduceBEq, Int.reduceBNe, Int.reduceToNat, ne_eq, implies_true, bA]
        exact ⟨i + 1, by rw [hc]; simp [rowS], h, by omega⟩
      · have d1 : decide (S[i].at_ < fr) = false := by simpa using c1
        by_cases c2 : to_ ≤ S[i].at_
        · have d2 : decide (to_ ≤ S[i].at_) = true := by simpa using c2
          have hc : cutS (S.take (i + 1)) fr to_ = cutS (S.take i) fr to_ ++ [S[i]] := by rw [hts, cutS_app]; simp [cutS, c2]
          simp (config := {maxSteps := 4000000}) only [U_ref14_Space_cut, d, isl, rowS, d1, d2, e1, app, reduceIte, reduceCtorEq, Nat.reduceEqDiff, Nat.reduceAdd, Int.reduceLT, Int.reduceLE, Int.reduceNeg, Int.reduceEq, Nat.reduceLT, Nat.reduceSub, Nat.reduceMul, Nat.reduceBEq, Nat.reduceLeDiff, Int.reduceBEq, Int.reduceBNe, Int.reduceToNat, ne_eq, implies_true, bA]
          exact ⟨i + 1, by rw [hc]; simp [rowS], h, by omega⟩
        · have d2 : decide (to_ ≤ S[i].at_) = false := by simpa using c2
          have hc : cutS (S.take (i + 1)) fr to_ = cutS (S.take i) fr to_ := by rw [hts, cutS_app]; simp [cutS, c1, c2]
          simp (config := {maxSteps := 4000000}) only [U_ref14_Space_cut, d, isl, rowS, d1, d2, e1, reduceIte, reduceCtorEq, Nat.reduceEqDiff, Nat.reduceAdd, Int.reduceLT, Int.reduceLE, Int.reduceNeg, Int.reduceEq, Nat.reduceLT, Nat.reduceSub, Nat.reduceMul, Nat.reduceBEq, Nat.reduceLeDiff, Int.reduceBEq, Int.reduceBNe, Int.reduceToNat, ne_eq, implies_true, bA]
          exact ⟨i + 1, by rw [hc]; try simp [rowS], h, by omega⟩
    · have d : decide ((i : Int) < (S.length : Int)) = false := by simpa using h
      have hA : S.take i = S := List.take_of_length_le (by omega)
      have hr : rowsO (some (AObj.list 2 ((cutS S fr to_).map rowS))) 0 (cutS S fr to_).length = some ((cutS S fr to_).map rowS) := rowsO_all (by simp)
      rw [hA]
      simp (config := {maxSteps := 4000000}) only [U_ref14_Space_cut, d, hr, reduceIte, reduceCtorEq, Nat.reduceEqDiff, Nat.reduceAdd, Int.reduceLT, Int.reduceLE, Int.reduceNeg, Int.reduceEq, Nat.reduceLT, Nat.reduceSub, Nat.reduceMul, Nat.reduceBEq, Nat.reduceLeDiff, Int.reduceBEq, Int.reduceBNe, Int.reduceToNat, ne_eq, implies_true, bA]

theorem rin_spec (s : Spc) (fr to_ : Int) (hl : s.S.length ≤ 1000000) : PCall Try.prog 60 [.agg (rowV s), .int .i64 fr, .int .i64 to_] (.int .i64 (inS s.S fr to_)) := by
  refine pcall_dr Try.func60 comp_ref14_Space_in ?_
  have hc := rcut_spec s fr to_ hl
  have hcl := cutS_len s.S fr to_
  obtain ⟨id, size, S⟩ := s
  simp only [rowV] at hc hl hcl
  have e1 : IntKind.i64.wrap ((S.length : Int) - ((cutS S fr to_).length : Int)) = inS S fr to_ := by rw [wrapI (by omega) (by omega)]; rfl
  simp (config := {maxSteps := 4000000}) only [U_ref14_Space_in, rowV, reduceIte, reduceCtorEq, Nat.reduceEqDiff, Nat.reduceAdd, Int.reduceLT, Int.reduceLE, Int.reduceNeg, Int.reduceEq, Nat.reduceLT, Nat.reduceSub, Nat.reduceMul, Nat.reduceBEq, Nat.reduceLeDiff, Int.reduceBEq, Int.reduceBNe, Int.reduceToNat, ne_eq, implies_true, bA]
  refine callI hc ?_
  simp (config := {maxSteps := 4000000}) only [U_ref14_Space_in, e1, reduceIte, reduceCtorEq, Nat.reduceEqDiff, Nat.reduceAdd, Int.reduceLT, Int.reduceLE, Int.reduceNeg, Int.reduceEq, Nat.reduceLT, Nat.reduceSub, Nat.reduceMul, Nat.reduceBEq, Nat.reduceLeDiff, Int.reduceBEq, Int.reduceBNe, Int.reduceToNat, ne_eq, implies_true, bA]
theorem usedV_app (l m : List Spc) : usedV (l ++ m) = usedV l + usedV m := by
  induction l with
  | nil => simp [usedV]
  | cons a r ih => simp only [List.cons_append, usedV, ih]; omega
theorem usedV_take (L : List Spc) (i : Nat) : usedV (L.take i) ≤ usedV L := by
  have e : usedV L = usedV (L.take i) + usedV (L.drop i) := by rw [← usedV_app, List.take_append_drop]
  have := usedV_nn (L.drop i)
  omega
theorem usedV_get {L : List Spc} {i : Nat} (h : i < L.length) : usedV (L.take (i + 1)) = usedV (L.take i) + (L[i].S.length : Int) := by
  rw [List.take_succ_eq_append_getElem h, usedV_app]; simp [usedV]
theorem rleft_spec (cap : Int) (L : List Spc) (hk : VolOk cap L) : PCall Try.prog 61 [pvV cap L] (.int .i64 (cap - usedV L)) := by
  refine pcall_dr Try.func61 comp_ref14_Vol_Left ?_
  have hl := hk.len
  have hu := hk.use
  have h0 := hk.c0
  have h1 := hk.c1
  simp (config := {maxSteps := 4000000}) only [U_ref14_Vol_Left, pvV, reduceIte, reduceCtorEq, Nat.reduceEqDiff, Nat.reduceAdd, Int.reduceLT, Int.reduceLE, Int.reduceNeg, Int.reduceEq, Nat.reduceLT, Nat.reduceSub, Nat.reduceMul, Nat.reduceBEq, Nat.reduceLeDiff, Int.reduceBEq, Int.reduceBNe, Int.reduceToNat, ne_eq, implies_true, bA]
  refine loopF (fun i : Nat => ⟨ofL [(1, .ref 0 0), (3, .int .i64 (cap - usedV (L.take i))), (4, .int .i64 (i : Int))], [.box [.int .i64 cap, .slc (L.map rowV)]]⟩) (fun i => i ≤ L.length) (fun i => L.length - i) 0 ?_ (Nat.zero_le _) ?_
  · simp (config := {maxSteps := 4000000}) only [U_ref14_Vol_Left, reduceIte, reduceCtorEq, Nat.reduceEqDiff, Nat.reduceAdd, Int.reduceLT, Int.reduceLE, Int.reduceNeg, Int.reduceEq, Nat.reduceLT, Nat.reduceSub, Nat.reduceMul, Nat.reduceBEq, Nat.reduceLeDiff, Int.reduceBEq, Int.reduceBNe, Int.reduceToNat, ne_eq, implies_true, bA]
    simp [usedV]
  · intro i hi
    by_cases h : i < L.length
    · have d : decide ((i : Int) < (L.length : Int)) = true := by simpa using h
      have e1 : IntKind.i64.wrap ((i : Int) + 1) = ((i + 1 : Nat) : Int) := by rw [wrapI (by omega) (by omega)]; omega
      have isl := fun ob fb => islV_map (ob := ob) (fb := fb) (k := .i64) (g := rowV) h (rowV_len _)
      have q1 := usedV_nn (L.take i)
      have q2 := usedV_take L (i + 1)
      have q3 := usedV_get h
      have e2 : IntKind.i64.wrap (cap - usedV (L.take i) - (L[i].S.length : Int)) = cap - usedV (L.take (i + 1)) := by rw [wrapI (by omega) (by omega), q3]; omega
      simp (config := {maxSteps := 4000000}) only [U_ref14_Vol_Left, d, isl, rowV, e1, e2, reduceIte, reduceCtorEq, Nat.reduceEqDiff, Nat.reduceAdd, Int.reduceLT, Int.reduceLE, Int.reduceNeg, Int.reduceEq, Nat.reduceLT, Nat.reduceSub, Nat.reduceMul, Nat.reduceBEq, Nat.reduceLeDiff, Int.reduceBEq, Int.reduceBNe, Int.reduceToNat, ne_eq, implies_true, bA]
      exact ⟨i + 1, rfl, h, by omega⟩
    · have d : decide ((i : Int) < (L.length : Int)) = false := by simpa using h
      have hA : L.take i = L := List.take_of_length_le (by omega)
      simp (config := {maxSteps := 4000000}) only [U_ref14_Vol_Left, d, hA, reduceIte, reduceCtorEq, Nat.reduceEqDiff, Nat.reduceAdd, Int.reduceLT, Int.reduceLE, Int.reduceNeg, Int.reduceEq, Nat.reduceLT, Nat.reduceSub, Nat.reduceMul, Nat.reduceBEq, Nat.reduceLeDiff, Int.reduceBEq, Int.reduceBNe, Int.reduceToNat, ne_eq, implies_true, bA]
def zrs (n : Nat) : List UInt8 := List.replicate n 0
theorem zrs_len (n : Nat) : (zrs n).length = n := by simp [zrs]
theorem zrs_succ (n : Nat) : zrs (n + 1) = zrs n ++ [0] := List.replicate_succ'
theorem rblank_spec : PCall Try.prog 63 [] (.str blankB) := by
  refine pcall_dr Try.func63 comp_ref14_Blank ?_
  have hz : blankB = zrs 32 := rfl
  rw [hz]
  simp (config := {maxSteps := 4000000}) only [U_ref14_Blank, reduceIte, reduceCtorEq, Nat.reduceEqDiff, Nat.reduceAdd, Int.reduceLT, Int.reduceLE, Int.reduceNeg, Int.reduceEq, Nat.reduceLT, Nat.reduceSub, Nat.reduceMul, Nat.reduceBEq, Nat.reduceLeDiff, Int.reduceBEq, Int.reduceBNe, Int.reduceToNat, ne_eq, implies_true, bA]
  refine loopF (fun i : Nat => ⟨ofL [(1, .osl 0 0 i), (2, .int .i64 (i : Int))], [.list 1 (byteRows (zrs i))]⟩) (fun i => i ≤ 32) (fun i => 32 - i) 0 ?_ (Nat.zero_le _) ?_
  · simp (config := {maxSteps := 4000000}) only [U_ref14_Blank, reduceIte, reduceCtorEq, Nat.reduceEqDiff, Nat.reduceAdd, Int.reduceLT, Int.reduceLE, Int.reduceNeg, Int.reduceEq, Nat.reduceLT, Nat.reduceSub, Nat.reduceMul, Nat.reduceBEq, Nat.reduceLeDiff, Int.reduceBEq, Int.reduceBNe, Int.reduceToNat, ne_eq, implies_true, bA]
    all_goals rfl
  · intro i hi
    have hl := zrs_len i
    by_cases h : i < 32
    · have d : decide ((i : Int) < 32) = true := by simp; omega
      have e1 : IntKind.i64.wrap ((i : Int) + 1) = ((i + 1 : Nat) : Int) := by rw [wrapI (by omega) (by omega)]; omega
      have ab : ∀ nw, appO [AObj.list 1 (byteRows (zrs i))] [] nw 1 (.osl 0 0 i) (some [[.int .u8 0]]) = some (.osl 0 0 (i + 1), [AObj.list 1 (byteRows (zrs i ++ [0]))]) := fun nw =>
        app_byte (ob := [AObj.list 1 (byteRows (zrs i))]) (fb := []) (nw := nw) (o := 0) (n := i) (l := zrs i) (b := 0) rfl rfl hl.symm (by omega)
      simp (config := {maxSteps := 4000000}) only [U_ref14_Blank, d, ab, e1, reduceIte, reduceCtorEq, Nat.reduceEqDiff, Nat.reduceAdd, Int.reduceLT, Int.reduceLE, Int.reduceNeg, Int.reduceEq, Nat.reduceLT, Nat.reduceSub, Nat.reduceMul, Nat.reduceBEq, Nat.reduceLeDiff, Int.reduceBEq, Int.reduceBNe, Int.reduceToNat, ne_eq, implies_true, bA]
      exact ⟨i + 1, by rw [zrs_succ], h, by omega⟩
    · obtain rfl : i = 32 := by omega
      have d : decide (((32 : Nat) : Int) < 32) = false := by decide
      have hr : rowsO (some (AObj.list 1 (byteRows (zrs 32)))) 0 32 = some (byteRows (zrs 32)) := rowsO_bytes hl.symm
      simp (config := {maxSteps := 4000000}) only [U_ref14_Blank, d, hr, b2sV_rows, bytesOf_byteRows, reduceIte, reduceCtorEq, Nat.reduceEqDiff, Nat.reduceAdd, Int.reduceLT, Int.reduceLE, Int.reduceNeg, Int.reduceEq, Nat.reduceLT, Nat.reduceSub, Nat.reduceMul, Nat.reduceBEq, Nat.reduceLeDiff, Int.reduceBEq, Int.reduceBNe, Int.reduceToNat, ne_eq, implies_true, bA]
theorem rof_spec (s : Spc) (i : Int) (hl : s.S.length ≤ 1000000) : PCall Try.prog 74 [.agg (rowV s), .int .i64 i] (.str (ofSc s.S i)) := by
  refine pcall_dr Try.func74 comp_ref14_Space_Of ?_
  obtain ⟨id, size, S⟩ := s
  simp only at hl ⊢
  simp (config := {maxSteps := 4000000}) only [U_ref14_Space_Of, rowV, reduceIte, reduceCtorEq, Nat.reduceEqDiff, Nat.reduceAdd, Int.reduceLT, Int.reduceLE, Int.reduceNeg, Int.reduceEq, Nat.reduceLT, Nat.reduceSub, Nat.reduceMul, Nat.reduceBEq, Nat.reduceLeDiff, Int.reduceBEq, Int.reduceBNe, Int.reduceToNat, ne_eq, implies_true, bA]
  refine loopF (fun j : Nat => ⟨ofL [(1, .int .i64 i), (2, .ref 0 0), (5, .int .i64 (j : Int))], [.box [.int .i64 id, .int .i64 size, .slc (S.map rowS)]]⟩) (fun j => j ≤ S.length ∧ ∀ q (hq : q < S.length), q < j → S[q].at_ ≠ i) (fun j => S.length - j) 0 ?_ ⟨Nat.zero_le _, fun q hq h => by omega⟩ ?_
  · simp (config := {maxSteps := 4000000}) only [U_ref14_Space_Of, reduceIte, reduceCtorEq, Nat.reduceEqDiff, Nat.reduceAdd, Int.reduceLT, Int.reduceLE, Int.reduceNeg, Int.reduceEq, Nat.reduceLT, Nat.reduceSub, Nat.reduceMul, Nat.reduceBEq, Nat.reduceLeDiff, Int.reduceBEq, Int.reduceBNe, Int.reduceToNat, ne_eq, implies_true, bA]
    all_goals rfl
  · rintro j ⟨hj, hn⟩
    by_cases h : j < S.length
    · have d : decide ((j : Int) < (S.length : Int)) = true := by simpa using h
      have e1 : IntKind.i64.wrap ((j : Int) + 1) = ((j + 1 : Nat) : Int) := by rw [wrapI (by omega) (by omega)]; omega
      have isl := fun ob fb => islV_map (ob := ob) (fb := fb) (k := .i64) (g := rowS) h (rowS_len _)
      by_cases c : S[j].at_ = i
      · have d2 : (S[j].at_ == i) = true := by simpa using c
        have hg : ofSc S i = S[j].dat := by
          rw [ofSc, getG_map h c fun q hq => hn q (by omega) hq]
        simp (config := {maxSteps := 4000000}) only [U_ref14_Space_Of, d, isl, rowS, d2, hg, reduceIte, reduceCtorEq, Nat.reduceEqDiff, Nat.reduceAdd, Int.reduceLT, Int.reduceLE, Int.reduceNeg, Int.reduceEq, Nat.reduceLT, Nat.reduceSub, Nat.reduceMul, Nat.reduceBEq, Nat.reduceLeDiff, Int.reduceBEq, Int.reduceBNe, Int.reduceToNat, ne_eq, implies_true, bA]
      · have d2 : (S[j].at_ == i) = false := by simpa using c
        simp (config := {maxSteps := 4000000}) only [U_ref14_Space_Of, d, isl, rowS, d2, e1, reduceIte, reduceCtorEq, Nat.reduceEqDiff, Nat.reduceAdd, Int.reduceLT, Int.reduceLE, Int.reduceNeg, Int.reduceEq, Nat.reduceLT, Nat.reduceSub, Nat.reduceMul, Nat.reduceBEq, Nat.reduceLeDiff, Int.reduceBEq, Int.reduceBNe, Int.reduceToNat, ne_eq, implies_true, bA]
        exact ⟨j + 1, rfl, ⟨h, fun q hq h2 => by
          by_cases e : q = j
          · subst e; exact c
          · exact hn q hq (by omega)⟩, by omega⟩
    · have d : decide ((j : Int) < (S.length : Int)) = false := by simpa using h
      have hg : ofSc S i = blankB := by
        have : getG i S = none := by
          cases hg : getG i S with
          | none => rfl
          | some a =>
            obtain ⟨h1, h2⟩ := getG_some hg
            obtain ⟨q, hq, rfl⟩ := List.getElem_of_mem h1
            exact absurd h2 (hn q hq (by omega))
        rw [ofSc, this]
      simp (config := {maxSteps := 4000000}) only [U_ref14_Space_Of, d, reduceIte, reduceCtorEq, Nat.reduceEqDiff, Nat.reduceAdd, Int.reduceLT, Int.reduceLE, Int.reduceNeg, Int.reduceEq, Nat.reduceLT, Nat.reduceSub, Nat.reduceMul, Nat.reduceBEq, Nat.reduceLeDiff, Int.reduceBEq, Int.reduceBNe, Int.reduceToNat, ne_eq, implies_true, bA]
      refine callI rblank_spec ?_
      simp (config := {maxSteps := 4000000}) only [U_ref14_Space_Of, hg, reduceIte, reduceCtorEq, Nat.reduceEqDiff, Nat.reduceAdd, Int.reduceLT, Int.reduceLE, Int.reduceNeg, Int.reduceEq, Nat.reduceLT, Nat.reduceSub, Nat.reduceMul, Nat.reduceBEq, Nat.reduceLeDiff, Int.reduceBEq, Int.reduceBNe, Int.reduceToNat, ne_eq, implies_true, bA]
theorem rwithin_spec (cap : Int) (L : List Spc) (hk : VolOk cap L) (id fr n : Int) (may : Bool) : PCall Try.prog 59 [pvV cap L, .int .i64 id, .int .i64 fr, .int .i64 n, .bool may] (.int .i64 (withinV L id fr n may)) := by
  refine pcall_dr Try.func59 comp_ref14_Vol_within ?_
  have hl := hk.len
  have hf := find_spec cap L id (by omega)
  simp only [pvV] at hf
  simp (config := {maxSteps := 4000000}) only [U_ref14_Vol_within, pvV, reduceIte, reduceCtorEq, Nat.reduceEqDiff, Nat.reduceAdd, Int.reduceLT, Int.reduceLE, Int.reduceNeg, Int.reduceEq, Nat.reduceLT, Nat.reduceSub, Nat.reduceMul, Nat.reduceBEq, Nat.reduceLeDiff, Int.reduceBEq, Int.reduceBNe, Int.reduceToNat, ne_eq, implies_true, bA]
  refine callI hf ?_
  unfold withinV
  cases hg : getG id L with
  | none =>
    have hfi : findI id L = -1 := by rw [findI, getG_idxN hg]
    simp (config := {maxSteps := 4000000}) only [U_ref14_Vol_within, hfi, reduceIte, reduceCtorEq, Nat.reduceEqDiff, Nat.reduceAdd, Int.reduceLT, Int.reduceLE, Int.reduceNeg, Int.reduceEq, Nat.reduceLT, Nat.reduceSub, Nat.reduceMul, Nat.reduceBEq, Nat.reduceLeDiff, Int.reduceBEq, Int.reduceBNe, Int.reduceToNat, ne_eq, implies_true, bA]
  | some a =>
    obtain ⟨i, hi, hlt, hia⟩ := getG_idx hg
    have hfi : findI id L = (i : Int) := by rw [findI, hi]
    have d5 : decide ((i : Int) < 0) = false := by simp
    have isl := fun ob fb => islV_map (ob := ob) (fb := fb) (k := .i64) (g := rowV) hlt (rowV_len _)
    rw [hia] at isl
    have hsz := hk.szs a (getG_some hg).1
    simp only
    cases may with
    | false =>
      rw [if_pos (.inl rfl)]
      simp (config := {maxSteps := 4000000}) only [U_ref14_Vol_within, hfi, d5, reduceIte, reduceCtorEq, Nat.reduceEqDiff, Nat.reduceAdd, Int.reduceLT, Int.reduceLE, Int.reduceNeg, Int.reduceEq, Nat.reduceLT, Nat.reduceSub, Nat.reduceMul, Nat.reduceBEq, Nat.reduceLeDiff, Int.reduceBEq, Int.reduceBNe, Int.reduceToNat, ne_eq, implies_true, bA]
    | true =>
      by_cases c1 : n < 1
      · have d1 : decide (n < 1) = true := by simpa using c1
        rw [if_pos (.inr c1)]
        simp (config := {maxSteps := 4000000}) only [U_ref14_Vol_within, hfi, d5, d1, reduceIte, reduceCtorEq, Nat.reduceEqDiff, Nat.reduceAdd, Int.reduceLT, Int.reduceLE, Int.reduceNeg, Int.reduceEq, Nat.reduceLT, Nat.reduceSub, Nat.reduceMul, Nat.reduceBEq, Nat.reduceLeDiff, Int.reduceBEq, Int.reduceBNe, Int.reduceToNat, ne_eq, implies_true, bA]
      · have d1 : decide (n < 1) = false := by simpa using c1
        rw [if_neg (by simp; omega)]
        by_cases c2 : fr < 0
        · have d2 : decide (fr < 0) = true := by simpa using c2
          rw [if_pos (.inl c2)]
          simp (config := {maxSteps := 4000000}) only [U_ref14_Vol_within, hfi, d5, d1, d2, reduceIte, reduceCtorEq, Nat.reduceEqDiff, Nat.reduceAdd, Int.reduceLT, Int.reduceLE, Int.reduceNeg, Int.reduceEq, Nat.reduceLT, Nat.reduceSub, Nat.reduceMul, Nat.reduceBEq, Nat.reduceLeDiff, Int.reduceBEq, Int.reduceBNe, Int.reduceToNat, ne_eq, implies_true, bA]
        · have d2 : decide (fr < 0) = false := by simpa using c2
          by_cases c3 : a.size < fr
          · have d3 : decide (a.size < fr) = true := by simpa using c3
            rw [if_pos (.inr (.inl c3))]
            simp (config := {maxSteps := 4000000}) only [U_ref14_Vol_within, hfi, d5, d1, d2, isl, rowV, d3, reduceIte, reduceCtorEq, Nat.reduceEqDiff, Nat.reduceAdd, Int.reduceLT, Int.reduceLE, Int.reduceNeg, Int.reduceEq, Nat.reduceLT, Nat.reduceSub, Nat.reduceMul, Nat.reduceBEq, Nat.reduceLeDiff, Int.reduceBEq, Int.reduceBNe, Int.reduceToNat, ne_eq, implies_true, bA]
          · have d3 : decide (a.size < fr) = false := by simpa using c3
            have e1 : IntKind.i64.wrap (a.size - fr) = a.size - fr := wrapI (by omega) (by omega)
            by_cases c4 : a.size - fr < n
            · have d4 : decide (a.size - fr < n) = true := by simpa using c4
              rw [if_pos (.inr (.inr c4))]
              simp (config := {maxSteps := 4000000}) only [U_ref14_Vol_within, hfi, d5, d1, d2, isl, rowV, d3, e1, d4, reduceIte, reduceCtorEq, Nat.reduceEqDiff, Nat.reduceAdd, Int.reduceLT, Int.reduceLE, Int.reduceNeg, Int.reduceEq, Nat.reduceLT, Nat.reduceSub, Nat.reduceMul, Nat.reduceBEq, Nat.reduceLeDiff, Int.reduceBEq, Int.reduceBNe, Int.reduceToNat, ne_eq, implies_true, bA]
            · have d4 : decide (a.size - fr < n) = false := by simpa using c4
              rw [if_neg (by omega)]
              simp (config := {maxSteps := 4000000}) only [U_ref14_Vol_within, hfi, d5, d1, d2, isl, rowV, d3, e1, d4, reduceIte, reduceCtorEq, Nat.reduceEqDiff, Nat.reduceAdd, Int.reduceLT, Int.reduceLE, Int.reduceNeg, Int.reduceEq, Nat.reduceLT, Nat.reduceSub, Nat.reduceMul, Nat.reduceBEq, Nat.reduceLeDiff, Int.reduceBEq, Int.reduceBNe, Int.reduceToNat, ne_eq, implies_true, bA]

def rowD (d : List UInt8) : List PV := [.str d]
theorem rowD_len (d : List UInt8) : (rowD d).length = 1 := rfl
/-- How many lie ahead. -/
def headS (S : List Sc) (fr : Int) : List Sc := S.takeWhile fun x => decide (x.at_ < fr)
theorem headS_eq : ∀ {S : List Sc} (fr : Int), SortedG S → headS S fr = S.filter fun x => decide (x.at_ < fr)
  | [], _, _ => rfl
  | a :: r, fr, h => by
    have hp := List.pairwise_cons.1 h
    have ih := headS_eq fr hp.2
    by_cases c : a.at_ < fr
    · simp only [headS, List.takeWhile_cons, List.filter_cons, c, decide_true, if_true] at ih ⊢
      rw [ih]
    · have : r.filter (fun x => decide (x.at_ < fr)) = [] := by
        rw [List.filter_eq_nil_iff]
        intro x hx
        have := hp.1 x hx
        simp only [key_sc] at this
        simp; omega
      simp only [headS, List.takeWhile_cons, List.filter_cons, c, decide_false, if_false, Bool.false_eq_true, this]
theorem filter_cut (S : List Sc) {fr to_ : Int} (h : fr ≤ to_) : (cutS S fr to_).filter (fun x => decide (x.at_ < fr)) = S.filter (fun x => decide (x.at_ < fr)) := by
  rw [cutS, List.filter_filter]
  apply List.filter_congr
  intro x _
  by_cases c : x.at_ < fr <;> simp [c]
theorem drop_takeW {α : Type} (p : α → Bool) : ∀ l : List α, l.drop (l.takeWhile p).length = l.dropWhile p
  | [] => rfl
  | a :: r => by
    simp only [List.takeWhile_cons, List.dropWhile_cons]
    split
    · simp only [List.length_cons, List.drop_succ_cons]; exact drop_takeW p r
    · rfl
theorem drop_head {S : List Sc} (hs : SortedG S) {fr to_ : Int} (h : fr ≤ to_) : (cutS S fr to_).drop (headS (cutS S fr to_) fr).length = S.filter (fun x => decide (to_ ≤ x.at_)) := by
  have hsc : SortedG (cutS S fr to_) := sorted_filter hs _
  have e1 : (cutS S fr to_).drop (headS (cutS S fr to_) fr).length = (cutS S fr to_).dropWhile (fun x => decide (x.at_ < fr)) := by
    exact drop_takeW _ _
  rw [e1]
  have e2 : ∀ T : List Sc, SortedG T → T.dropWhile (fun x => decide (x.at_ < fr)) = T.filter (fun x => decide (fr ≤ x.at_)) := by
    intro T hT
    induction T with
    | nil => rfl
    | cons a r ih =>
      have hp := List.pairwise_cons.1 hT
      by_cases c : a.at_ < fr
      · have c' : ¬ fr ≤ a.at_ := by omega
        simp only [List.dropWhile_cons, List.filter_cons, c, c', decide_true, decide_false, if_true, if_false, Bool.false_eq_true]
        exact ih hp.2
      · have c' : fr ≤ a.at_ := by omega
        have : r.filter (fun x => decide (fr ≤ x.at_)) = r := by
          rw [List.filter_eq_self]
          intro x hx
          have := hp.1 x hx
          simp only [key_sc] at this
          simp; omega
        simp only [List.dropWhile_cons, List.filter_cons, c, c', decide_true, decide_false, if_true, if_false, Bool.false_eq_true, this]
  rw [e2 _ hsc, cutS, List.filter_filter]
  apply List.filter_congr
  intro x _
  by_cases c : x.at_ < fr
  · have c1 : ¬ to_ ≤ x.at_ := by omega
    have c2 : ¬ fr ≤ x.at_ := by omega
    simp [c, c1, c2]
  · have c2 : fr ≤ x.at_ := by omega
    simp [c, c2]
theorem layS_head {S : List Sc} (hs : SortedG S) (fr : Int) (d : List (List UInt8)) : layS S fr d = headS (cutS S fr (fr + (d.length : Int))) fr ++ (scsFrom fr d ++ (cutS S fr (fr + (d.length : Int))).drop (headS (cutS S fr (fr + (d.length : Int))) fr).length) := by
  have h : fr ≤ fr + (d.length : Int) := by omega
  rw [drop_head hs h, headS_eq (S := cutS S fr (fr + (d.length : Int))) fr (sorted_filter hs _), filter_cut S h]; rfl

theorem takeW_get {α : Type} (p : α → Bool) : ∀ {l : List α} {k : Nat} (h : k < (l.takeWhile p).length) (hk : k < l.length), p l[k] = true
  | a :: r, k, h, hk => by
    cases hp : p a with
    | false => simp [List.takeWhile_cons, hp] at h
    | true =>
      cases k with
      | zero => exact hp
      | succ k => exact takeW_get p (l := r) (k := k) (by simpa [List.takeWhile_cons, hp] using h) (by simpa using hk)
theorem takeW_stop {α : Type} (p : α → Bool) : ∀ {l : List α} (h : (l.takeWhile p).length < l.length), p l[(l.takeWhile p).length] = false
  | a :: r, h => by
    cases hp : p a with
    | false => simp [List.takeWhile_cons, hp]
    | true =>
      have h' : (r.takeWhile p).length < r.length := by simpa [List.takeWhile_cons, hp] using h
      have := takeW_stop p h'
      simp only [List.takeWhile_cons, hp, if_true, List.length_cons, List.getElem_cons_succ]
      exact this
theorem takeW_take {α : Type} (p : α → Bool) : ∀ (l : List α), l.takeWhile p = l.take (l.takeWhile p).length
  | [] => rfl
  | a :: r => by
    cases hp : p a with
    | false => simp [List.takeWhile_cons, hp]
    | true => simp only [List.takeWhile_cons, hp, if_true, List.length_cons, List.take_succ_cons]; rw [← takeW_take p r]
theorem rlay_spec (s : Spc) (fr : Int) (D : List (List UInt8)) (hs : SortedG s.S) (hl : s.S.length ≤ 1000000) (hD : D.length ≤ 1000000) (h0 : 0 ≤ fr) (h1 : fr ≤ 100000000) :
    PCall Try.prog 62 [.agg (rowV s), .int .i64 fr, .slc (D.map rowD)] (.agg (rowV ⟨s.id, s.size, layS s.S fr D⟩)) := by
  refine pcall_dr Try.func62 comp_ref14_Space_lay ?_
  have hc := rcut_spec s fr (fr + (D.length : Int)) hl
  have hcl := cutS_len s.S fr (fr + (D.length : Int))
  rw [layS_head hs]
  obtain ⟨id, size, S⟩ := s
  simp only [rowV] at hc hl hcl hs ⊢
  generalize cutS S fr (fr + (D.length : Int)) = W at hc hcl ⊢
  obtain ⟨H, hH⟩ : ∃ H, (headS W fr).length = H := ⟨_, rfl⟩
  have hHl : H ≤ W.length := by rw [← hH]; exact (List.takeWhile_prefix _).length_le
  have hHt : headS W fr = W.take H := by rw [← hH]; exact takeW_take _ W
  have hHp : ∀ k (hk : k < W.length), k < H → W[k].at_ < fr := fun k hk h => by
    have := takeW_get (fun x : Sc => decide (x.at_ < fr)) (l := W) (k := k) (by rw [← hH] at h; exact h) hk
    simpa using this
  have hHs : ∀ (h : H < W.length), ¬ W[H].at_ < fr := fun h => by
    subst hH
    have := takeW_stop (fun x : Sc => decide (x.at_ < fr)) (l := W) h
    exact of_decide_eq_false this
  have e0 : IntKind.i64.wrap (fr + (D.length : Int)) = fr + (D.length : Int) := wrapI (by omega) (by omega)
  have app : ∀ (l : List Sc) (x : Sc) (n : Nat), n = l.length → l.length ≤ 4000000 → appO [.box [.int .i64 id, .int .i64 size, .slc (S.map rowS)], .box [.int .i64 0, .int .i64 0, .slc []], .box [.int .i64 id, .int .i64 size, .slc (W.map rowS)], .list 2 (l.map rowS)] [] none 2 (.osl 3 0 n) (some [[.int .i64 x.at_, .str x.dat]]) =
      some (.osl 3 0 (n + 1), [.box [.int .i64 id, .int .i64 size, .slc (S.map rowS)], .box [.int .i64 0, .int .i64 0, .slc []], .box [.int .i64 id, .int .i64 size, .slc (W.map rowS)], .list 2 ((l ++ [x]).map rowS)]) := by
    rintro l x n rfl hl2
    have := app_map (ob := [.box [.int .i64 id, .int .i64 size, .slc (S.map rowS)], .box [.int .i64 0, .int .i64 0, .slc []], .box [.int .i64 id, .int .i64 size, .slc (W.map rowS)], .list 2 (l.map rowS)]) (fb := []) (nw := none) (o := 3) (n := l.length) (e := 2) (g := rowS) (l := l) (m := [x]) rfl rfl rfl (by omega) (by simp) rowS_len
    exact this
  simp (config := {maxSteps := 4000000}) only [U_ref14_Space_lay, e0, reduceIte, reduceCtorEq, Nat.reduceEqDiff, Nat.reduceAdd, Int.reduceLT, Int.reduceLE, Int.reduceNeg, Int.reduceEq, Nat.reduceLT, Nat.reduceSub, Nat.reduceMul, Nat.reduceBEq, Nat.reduceLeDiff, Int.reduceBEq, Int.reduceBNe, Int.reduceToNat, ne_eq, implies_true, bA]
  refine callI hc ?_
  simp (config := {maxSteps := 4000000}) only [U_ref14_Space_lay, reduceIte, reduceCtorEq, Nat.reduceEqDiff, Nat.reduceAdd, Int.reduceLT, Int.reduceLE, Int.reduceNeg, Int.reduceEq, Nat.reduceLT, Nat.reduceSub, Nat.reduceMul, Nat.reduceBEq, Nat.reduceLeDiff, Int.reduceBEq, Int.reduceBNe, Int.reduceToNat, ne_eq, implies_true, bA]
  refine loopF (fun k : Nat => ⟨ofL [(1, .int .i64 fr), (2, .slc (D.map rowD)), (3, .ref 0 0), (6, .ref 1 0), (7, .ref 2 0), (8, .osl 3 0 k), (9, .int .i64 (k : Int))], [.box [.int .i64 id, .int .i64 size, .slc (S.map rowS)], .box [.int .i64 0, .int .i64 0, .slc []], .box [.int .i64 id, .int .i64 size, .slc (W.map rowS)], .list 2 ((W.take k).map rowS)]⟩) (fun k => k ≤ H) (fun k => H - k) 0 ?_ (Nat.zero_le _) ?_
  · simp (config := {maxSteps := 4000000}) only [U_ref14_Space_lay, reduceIte, reduceCtorEq, Nat.reduceEqDiff, Nat.reduceAdd, Int.reduceLT, Int.reduceLE, Int.reduceNeg, Int.reduceEq, Nat.reduceLT, Nat.reduceSub, Nat.reduceMul, Nat.reduceBEq, Nat.reduceLeDiff, Int.reduceBEq, Int.reduceBNe, Int.reduceToNat, ne_eq, implies_true, bA]
    all_goals rfl
  · intro k hk
    by_cases h : k < H
    · have hkW : k < W.length := by omega
      have d : decide ((k : Int) < (W.length : Int)) = true := by simp; omega
      have d2 : decide (W[k].at_ < fr) = true := by simpa using hHp k hkW h
      have isl := fun ob fb => islV_map (ob := ob) (fb := fb) (k := .i64) (g := rowS) hkW (rowS_len _)
      have e1 : IntKind.i64.wrap ((k : Int) + 1) = ((k + 1 : Nat) : Int) := by rw [wrapI (by omega) (by omega)]; omega
      have a1 := app (W.take k) W[k] k (by simp; omega) (by simp; omega)
      simp (config := {maxSteps := 4000000}) only [U_ref14_Space_lay, d, isl, rowS, d2, a1, e1, reduceIte, reduceCtorEq, Nat.reduceEqDiff, Nat.reduceAdd, Int.reduceLT, Int.reduceLE, Int.reduceNeg, Int.reduceEq, Nat.reduceLT, Nat.reduceSub, Nat.reduceMul, Nat.reduceBEq, Nat.reduceLeDiff, Int.reduceBEq, Int.reduceBNe, Int.reduceToNat, ne_eq, implies_true, bA]
      exact ⟨k + 1, by rw [List.take_succ_eq_append_getElem hkW], h, by omega⟩
    · obtain rfl : k = H := by omega
      by_cases hw : k < W.length
      · have d : decide ((k : Int) < (W.length : Int)) = true := by simp; omega
        have d2 : decide (W[k].at_ < fr) = false := by simpa using hHs hw
        have isl := fun ob fb => islV_map (ob := ob) (fb := fb) (k := .i64) (g := rowS) hw (rowS_len _)
        generalize k = H at *
        simp (config := {maxSteps := 4000000}) only [U_ref14_Space_lay, d, isl, rowS, d2, reduceIte, reduceCtorEq, Nat.reduceEqDiff, Nat.reduceAdd, Int.reduceLT, Int.reduceLE, Int.reduceNeg, Int.reduceEq, Nat.reduceLT, Nat.reduceSub, Nat.reduceMul, Nat.reduceBEq, Nat.reduceLeDiff, Int.reduceBEq, Int.reduceBNe, Int.reduceToNat, ne_eq, implies_true, bA]
        refine loopF (fun i : Nat => ⟨ofL [(1, .int .i64 fr), (2, .slc (D.map rowD)), (3, .ref 0 0), (6, .ref 1 0), (7, .ref 2 0), (8, .osl 3 0 (H + i)), (9, .int .i64 (H : Int)), (10, .int .i64 (i : Int))], [.box [.int .i64 id, .int .i64 size, .slc (S.map rowS)], .box [.int .i64 0, .int .i64 0, .slc []], .box [.int .i64 id, .int .i64 size, .slc (W.map rowS)], .list 2 ((W.take H ++ (scsFrom fr D).take i).map rowS)]⟩) (fun i => i ≤ D.length) (fun i => D.length - i) 0 ?_ (Nat.zero_le _) ?_
        · simp (config := {maxSteps := 4000000}) only [U_ref14_Space_lay, reduceIte, reduceCtorEq, Nat.reduceEqDiff, Nat.reduceAdd, Int.reduceLT, Int.reduceLE, Int.reduceNeg, Int.reduceEq, Nat.reduceLT, Nat.reduceSub, Nat.reduceMul, Nat.reduceBEq, Nat.reduceLeDiff, Int.reduceBEq, Int.reduceBNe, Int.reduceToNat, ne_eq, implies_true, bA]
          all_goals (try simp)
        · intro i hi
          have hsl := scsFrom_len fr D
          by_cases h : i < D.length
          · have d3 : decide ((i : Int) < (D.length : Int)) = true := by simpa using h
            have isl3 := fun ob fb => islV_map (ob := ob) (fb := fb) (k := .i64) (g := rowD) h (rowD_len _)
            have e1 : IntKind.i64.wrap ((i : Int) + 1) = ((i + 1 : Nat) : Int) := by rw [wrapI (by omega) (by omega)]; omega
            have e2 : IntKind.i64.wrap (fr + (i : Int)) = fr + (i : Int) := wrapI (by omega) (by omega)
            have hx : (scsFrom fr D)[i]'(by omega) = ⟨fr + (i : Int), D[i]⟩ := by
              have := scsFrom_get fr (d := D) (i := i)
              rw [List.getElem?_eq_getElem (by omega), List.getElem?_eq_getElem h] at this
              simpa using this
            have hts : (scsFrom fr D).take (i + 1) = (scsFrom fr D).take i ++ [⟨fr + (i : Int), D[i]⟩] := by rw [List.take_succ_eq_append_getElem (by omega), hx]
            have a1 := app (W.take H ++ (scsFrom fr D).take i) ⟨fr + (i : Int), D[i]⟩ (H + i) (by simp; omega) (by simp; omega)
            simp (config := {maxSteps := 4000000}) only [U_ref14_Space_lay, d3, isl3, rowD, e2, a1, e1, reduceIte, reduceCtorEq, Nat.reduceEqDiff, Nat.reduceAdd, Int.reduceLT, Int.reduceLE, Int.reduceNeg, Int.reduceEq, Nat.reduceLT, Nat.reduceSub, Nat.reduceMul, Nat.reduceBEq, Nat.reduceLeDiff, Int.reduceBEq, Int.reduceBNe, Int.reduceToNat, ne_eq, implies_true, bA]
            exact ⟨i + 1, by rw [hts]; try rfl, h, by omega⟩
          · obtain rfl : i = D.length := by omega
            have d3 : decide ((D.length : Int) < (D.length : Int)) = false := by simp
            have ht : (scsFrom fr D).take D.length = scsFrom fr D := List.take_of_length_le (by omega)
            rw [ht]
            simp (config := {maxSteps := 4000000}) only [U_ref14_Space_lay, d3, reduceIte, reduceCtorEq, Nat.reduceEqDiff, Nat.reduceAdd, Int.reduceLT, Int.reduceLE, Int.reduceNeg, Int.reduceEq, Nat.reduceLT, Nat.reduceSub, Nat.reduceMul, Nat.reduceBEq, Nat.reduceLeDiff, Int.reduceBEq, Int.reduceBNe, Int.reduceToNat, ne_eq, implies_true, bA]
            refine loopF (fun j : Nat => ⟨ofL [(3, .ref 0 0), (6, .ref 1 0), (7, .ref 2 0), (8, .osl 3 0 (H + D.length + j)), (9, .int .i64 ((H + j : Nat) : Int))], [.box [.int .i64 id, .int .i64 size, .slc (S.map rowS)], .box [.int .i64 0, .int .i64 0, .slc []], .box [.int .i64 id, .int .i64 size, .slc (W.map rowS)], .list 2 ((W.take H ++ (scsFrom fr D ++ (W.drop H).take j)).map rowS)]⟩) (fun j => H + j ≤ W.length) (fun j => W.length - (H + j)) 0 ?_ (by simpa using hHl) ?_
            · simp (config := {maxSteps := 4000000}) only [U_ref14_Space_lay, reduceIte, reduceCtorEq, Nat.reduceEqDiff, Nat.reduceAdd, Int.reduceLT, Int.reduceLE, Int.reduceNeg, Int.reduceEq, Nat.reduceLT, Nat.reduceSub, Nat.reduceMul, Nat.reduceBEq, Nat.reduceLeDiff, Int.reduceBEq, Int.reduceBNe, Int.reduceToNat, ne_eq, implies_true, bA]
              all_goals (try simp)
            · intro j hj
              have hdl : (W.drop H).length = W.length - H := by simp
              by_cases h4 : H + j < W.length
              · have d4 : decide (((H + j : Nat) : Int) < (W.length : Int)) = true := by simp; omega
                have isl4 := fun ob fb => islV_map (ob := ob) (fb := fb) (k := .i64) (g := rowS) h4 (rowS_len _)
                have e4 : IntKind.i64.wrap (((H + j : Nat) : Int) + 1) = ((H + (j + 1) : Nat) : Int) := by rw [wrapI (by omega) (by omega)]; omega
                have hts : (W.drop H).take (j + 1) = (W.drop H).take j ++ [W[H + j]] := by rw [List.take_succ_eq_append_getElem (by omega)]; simp
                have a4 := app (W.take H ++ (scsFrom fr D ++ (W.drop H).take j)) W[H + j] (H + D.length + j) (by simp; omega) (by simp; omega)
                simp (config := {maxSteps := 4000000}) only [U_ref14_Space_lay, d4, isl4, rowS, a4, e4, reduceIte, reduceCtorEq, Nat.reduceEqDiff, Nat.reduceAdd, Int.reduceLT, Int.reduceLE, Int.reduceNeg, Int.reduceEq, Nat.reduceLT, Nat.reduceSub, Nat.reduceMul, Nat.reduceBEq, Nat.reduceLeDiff, Int.reduceBEq, Int.reduceBNe, Int.reduceToNat, ne_eq, implies_true, bA]
                exact ⟨j + 1, by rw [hts]; try rfl, by omega, by omega⟩
              · have d4 : decide (((H + j : Nat) : Int) < (W.length : Int)) = false := by simp; omega
                have ht4 : (W.drop H).take j = W.drop H := List.take_of_length_le (by omega)
                rw [ht4, hH, hHt]
                have hr : rowsO (some (AObj.list 2 ((W.take H ++ (scsFrom fr D ++ W.drop H)).map rowS))) 0 (H + D.length + j) = some ((W.take H ++ (scsFrom fr D ++ W.drop H)).map rowS) := rowsO_all (by simp; omega)
                simp (config := {maxSteps := 4000000}) only [U_ref14_Space_lay, d4, hr, reduceIte, reduceCtorEq, Nat.reduceEqDiff, Nat.reduceAdd, Int.reduceLT, Int.reduceLE, Int.reduceNeg, Int.reduceEq, Nat.reduceLT, Nat.reduceSub, Nat.reduceMul, Nat.reduceBEq, Nat.reduceLeDiff, Int.reduceBEq, Int.reduceBNe, Int.reduceToNat, ne_eq, implies_true, bA]
      · have d : decide ((k : Int) < (W.length : Int)) = false := by simp; omega
        generalize k = H at *
        simp (config := {maxSteps := 4000000}) only [U_ref14_Space_lay, d, reduceIte, reduceCtorEq, Nat.reduceEqDiff, Nat.reduceAdd, Int.reduceLT, Int.reduceLE, Int.reduceNeg, Int.reduceEq, Nat.reduceLT, Nat.reduceSub, Nat.reduceMul, Nat.reduceBEq, Nat.reduceLeDiff, Int.reduceBEq, Int.reduceBNe, Int.reduceToNat, ne_eq, implies_true, bA]
        refine loopF (fun i : Nat => ⟨ofL [(1, .int .i64 fr), (2, .slc (D.map rowD)), (3, .ref 0 0), (6, .ref 1 0), (7, .ref 2 0), (8, .osl 3 0 (H + i)), (9, .int .i64 (H : Int)), (10, .int .i64 (i : Int))], [.box [.int .i64 id, .int .i64 size, .slc (S.map rowS)], .box [.int .i64 0, .int .i64 0, .slc []], .box [.int .i64 id, .int .i64 size, .slc (W.map rowS)], .list 2 ((W.take H ++ (scsFrom fr D).take i).map rowS)]⟩) (fun i => i ≤ D.length) (fun i => D.length - i) 0 ?_ (Nat.zero_le _) ?_
        · simp (config := {maxSteps := 4000000}) only [U_ref14_Space_lay, reduceIte, reduceCtorEq, Nat.reduceEqDiff, Nat.reduceAdd, Int.reduceLT, Int.reduceLE, Int.reduceNeg, Int.reduceEq, Nat.reduceLT, Nat.reduceSub, Nat.reduceMul, Nat.reduceBEq, Nat.reduceLeDiff, Int.reduceBEq, Int.reduceBNe, Int.reduceToNat, ne_eq, implies_true, bA]
          all_goals (try simp)
        · intro i hi
          have hsl := scsFrom_len fr D
          by_cases h : i < D.length
          · have d3 : decide ((i : Int) < (D.length : Int)) = true := by simpa using h
            have isl3 := fun ob fb => islV_map (ob := ob) (fb := fb) (k := .i64) (g := rowD) h (rowD_len _)
            have e1 : IntKind.i64.wrap ((i : Int) + 1) = ((i + 1 : Nat) : Int) := by rw [wrapI (by omega) (by omega)]; omega
            have e2 : IntKind.i64.wrap (fr + (i : Int)) = fr + (i : Int) := wrapI (by omega) (by omega)
            have hx : (scsFrom fr D)[i]'(by omega) = ⟨fr + (i : Int), D[i]⟩ := by
              have := scsFrom_get fr (d := D) (i := i)
              rw [List.getElem?_eq_getElem (by omega), List.getElem?_eq_getElem h] at this
              simpa using this
            have hts : (scsFrom fr D).take (i + 1) = (scsFrom fr D).take i ++ [⟨fr + (i : Int), D[i]⟩] := by rw [List.take_succ_eq_append_getElem (by omega), hx]
            have a1 := app (W.take H ++ (scsFrom fr D).take i) ⟨fr + (i : Int), D[i]⟩ (H + i) (by simp; omega) (by simp; omega)
            simp (config := {maxSteps := 4000000}) only [U_ref14_Space_lay, d3, isl3, rowD, e2, a1, e1, reduceIte, reduceCtorEq, Nat.reduceEqDiff, Nat.reduceAdd, Int.reduceLT, Int.reduceLE, Int.reduceNeg, Int.reduceEq, Nat.reduceLT, Nat.reduceSub, Nat.reduceMul, Nat.reduceBEq, Nat.reduceLeDiff, Int.reduceBEq, Int.reduceBNe, Int.reduceToNat, ne_eq, implies_true, bA]
            exact ⟨i + 1, by rw [hts]; try rfl, h, by omega⟩
          · obtain rfl : i = D.length := by omega
            have d3 : decide ((D.length : Int) < (D.length : Int)) = false := by simp
            have ht : (scsFrom fr D).take D.length = scsFrom fr D := List.take_of_length_le (by omega)
            rw [ht]
            simp (config := {maxSteps := 4000000}) only [U_ref14_Space_lay, d3, reduceIte, reduceCtorEq, Nat.reduceEqDiff, Nat.reduceAdd, Int.reduceLT, Int.reduceLE, Int.reduceNeg, Int.reduceEq, Nat.reduceLT, Nat.reduceSub, Nat.reduceMul, Nat.reduceBEq, Nat.reduceLeDiff, Int.reduceBEq, Int.reduceBNe, Int.reduceToNat, ne_eq, implies_true, bA]
            refine loopF (fun j : Nat => ⟨ofL [(3, .ref 0 0), (6, .ref 1 0), (7, .ref 2 0), (8, .osl 3 0 (H + D.length + j)), (9, .int .i64 ((H + j : Nat) : Int))], [.box [.int .i64 id, .int .i64 size, .slc (S.map rowS)], .box [.int .i64 0, .int .i64 0, .slc []], .box [.int .i64 id, .int .i64 size, .slc (W.map rowS)], .list 2 ((W.take H ++ (scsFrom fr D ++ (W.drop H).take j)).map rowS)]⟩) (fun j => H + j ≤ W.length) (fun j => W.length - (H + j)) 0 ?_ (by simpa using hHl) ?_
            · simp (config := {maxSteps := 4000000}) only [U_ref14_Space_lay, reduceIte, reduceCtorEq, Nat.reduceEqDiff, Nat.reduceAdd, Int.reduceLT, Int.reduceLE, Int.reduceNeg, Int.reduceEq, Nat.reduceLT, Nat.reduceSub, Nat.reduceMul, Nat.reduceBEq, Nat.reduceLeDiff, Int.reduceBEq, Int.reduceBNe, Int.reduceToNat, ne_eq, implies_true, bA]
              all_goals (try simp)
            · intro j hj
              have hdl : (W.drop H).length = W.length - H := by simp
              by_cases h4 : H + j < W.length
              · have d4 : decide (((H + j : Nat) : Int) < (W.length : Int)) = true := by simp; omega
                have isl4 := fun ob fb => islV_map (ob := ob) (fb := fb) (k := .i64) (g := rowS) h4 (rowS_len _)
                have e4 : IntKind.i64.wrap (((H + j : Nat) : Int) + 1) = ((H + (j + 1) : Nat) : Int) := by rw [wrapI (by omega) (by omega)]; omega
                have hts : (W.drop H).take (j + 1) = (W.drop H).take j ++ [W[H + j]] := by rw [List.take_succ_eq_append_getElem (by omega)]; simp
                have a4 := app (W.take H ++ (scsFrom fr D ++ (W.drop H).take j)) W[H + j] (H + D.length + j) (by simp; omega) (by simp; omega)
                simp (config := {maxSteps := 4000000}) only [U_ref14_Space_lay, d4, isl4, rowS, a4, e4, reduceIte, reduceCtorEq, Nat.reduceEqDiff, Nat.reduceAdd, Int.reduceLT, Int.reduceLE, Int.reduceNeg, Int.reduceEq, Nat.reduceLT, Nat.reduceSub, Nat.reduceMul, Nat.reduceBEq, Nat.reduceLeDiff, Int.reduceBEq, Int.reduceBNe, Int.reduceToNat, ne_eq, implies_true, bA]
                exact ⟨j + 1, by rw [hts]; try rfl, by omega, by omega⟩
              · have d4 : decide (((H + j : Nat) : Int) < (W.length : Int)) = false := by simp; omega
                have ht4 : (W.drop H).take j = W.drop H := List.take_of_length_le (by omega)
                rw [ht4, hH, hHt]
                have hr : rowsO (some (AObj.list 2 ((W.take H ++ (scsFrom fr D ++ W.drop H)).map rowS))) 0 (H + D.length + j) = some ((W.take H ++ (scsFrom fr D ++ W.drop H)).map rowS) := rowsO_all (by simp; omega)
                simp (config := {maxSteps := 4000000}) only [U_ref14_Space_lay, d4, hr, reduceIte, reduceCtorEq, Nat.reduceEqDiff, Nat.reduceAdd, Int.reduceLT, Int.reduceLE, Int.reduceNeg, Int.reduceEq, Nat.reduceLT, Nat.reduceSub, Nat.reduceMul, Nat.reduceBEq, Nat.reduceLeDiff, Int.reduceBEq, Int.reduceBNe, Int.reduceToNat, ne_eq, implies_true, bA]
end Go.Proofs.Ythjnfjgejdlbfaa.Aw
