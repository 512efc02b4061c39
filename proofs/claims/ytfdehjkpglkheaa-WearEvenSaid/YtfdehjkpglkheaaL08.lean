/-
  Statements of layer 8, as contracts: each returns true.
-/
import Derived.Test.YtfdehjkpglkheaaPRef08
import Derived.Test.YtfdehjkpglkheaaAwFit
set_option linter.unusedSimpArgs false
set_option linter.unusedVariables false
namespace Go.Proofs.Ytfdehjkpglkheaa.Aw
open Go.RowKit

theorem awake08_spec : PCall Try.prog 8 [] (.bool true) := by
  refine pcall_go Try.func8 comp_law08_awake ?_
  have h1 : pickS [⟨0, 0, 2⟩, ⟨0, 0, 1⟩, ⟨0, 0, 1⟩] = 1 := by decide
  have h2 : victimS [⟨2, 3, 0⟩, ⟨2, 0, 0⟩, ⟨3, 2, 0⟩] = 2 := by decide
  have h3 : pickS [] = -1 := by decide
  simp (config := {maxSteps := 4000000}) only [U_law08_awake, reduceIte, reduceCtorEq, Nat.reduceEqDiff, Nat.reduceAdd, Int.reduceLT, Int.reduceLE, Int.reduceNeg, Int.reduceEq, Nat.reduceLT, Nat.reduceSub, Nat.reduceMul, Nat.reduceBEq, Nat.reduceLeDiff, Int.reduceBEq, Int.reduceBNe, Int.reduceToNat, ne_eq, implies_true, bA]
  refine callI (pick_spec [⟨0, 0, 2⟩, ⟨0, 0, 1⟩, ⟨0, 0, 1⟩] (by decide)) ?_
  simp (config := {maxSteps := 4000000}) only [U_law08_awake, h1, reduceIte, reduceCtorEq, Nat.reduceEqDiff, Nat.reduceAdd, Int.reduceLT, Int.reduceLE, Int.reduceNeg, Int.reduceEq, Nat.reduceLT, Nat.reduceSub, Nat.reduceMul, Nat.reduceBEq, Nat.reduceLeDiff, Int.reduceBEq, Int.reduceBNe, Int.reduceToNat, ne_eq, implies_true, bA]
  refine callI (victim_spec [⟨2, 3, 0⟩, ⟨2, 0, 0⟩, ⟨3, 2, 0⟩] (by decide)) ?_
  simp (config := {maxSteps := 4000000}) only [U_law08_awake, h1, h2, reduceIte, reduceCtorEq, Nat.reduceEqDiff, Nat.reduceAdd, Int.reduceLT, Int.reduceLE, Int.reduceNeg, Int.reduceEq, Nat.reduceLT, Nat.reduceSub, Nat.reduceMul, Nat.reduceBEq, Nat.reduceLeDiff, Int.reduceBEq, Int.reduceBNe, Int.reduceToNat, ne_eq, implies_true, bA]
  refine callI (pick_spec [] (by decide)) ?_
  simp (config := {maxSteps := 4000000}) only [U_law08_awake, h1, h2, h3, reduceIte, reduceCtorEq, Nat.reduceEqDiff, Nat.reduceAdd, Int.reduceLT, Int.reduceLE, Int.reduceNeg, Int.reduceEq, Nat.reduceLT, Nat.reduceSub, Nat.reduceMul, Nat.reduceBEq, Nat.reduceLeDiff, Int.reduceBEq, Int.reduceBNe, Int.reduceToNat, ne_eq, implies_true, bA]

theorem refs_spec (l : List Blk) (hl : l.length ≤ 1000000) : PCall Try.prog 11 [.slc (l.map rowB)] (.own 3 (l.map rowB)) := by
  refine pcall_go Try.func11 comp_law08_refs ?_
  simp (config := {maxSteps := 4000000}) only [U_law08_refs, reduceIte, reduceCtorEq, Nat.reduceEqDiff, Nat.reduceAdd, Int.reduceLT, Int.reduceLE, Int.reduceNeg, Int.reduceEq, Nat.reduceLT, Nat.reduceSub, Nat.reduceMul, Nat.reduceBEq, Nat.reduceLeDiff, Int.reduceBEq, Int.reduceBNe, Int.reduceToNat, ne_eq, implies_true, bA]
  refine loopF (fun i : Nat => ⟨ofL [(0, .slc (l.map rowB)), (3, .osl 0 0 i), (4, .int .i64 i)], [.list 3 ((l.take i).map rowB)]⟩) (fun i => i ≤ l.length) (fun i => l.length - i) 0 ?_ (Nat.zero_le _) ?_
  · simp (config := {maxSteps := 4000000}) only [U_law08_refs, reduceIte, reduceCtorEq, Nat.reduceEqDiff, Nat.reduceAdd, Int.reduceLT, Int.reduceLE, Int.reduceNeg, Int.reduceEq, Nat.reduceLT, Nat.reduceSub, Nat.reduceMul, Nat.reduceBEq, Nat.reduceLeDiff, Int.reduceBEq, Int.reduceBNe, Int.reduceToNat, ne_eq, implies_true, bA]
    all_goals rfl
  · intro i hi
    by_cases h : i < l.length
    · have d : decide ((i : Int) < (l.length : Int)) = true := by simpa using h
      have e1 : IntKind.i64.wrap ((i : Int) + 1) = ((i + 1 : Nat) : Int) := by rw [wrapI (by omega) (by omega)]; omega
      have hti : (l.take i).length = i := by simp; omega
      have ha : appO [AObj.list 3 ((l.take i).map rowB)] [] none 3 (.osl 0 0 i) (some [[.int .i64 l[i].st, .int .i64 l[i].va, .int .i64 l[i].wo]]) = some (.osl 0 0 (i + 1), [AObj.list 3 ((l.take (i + 1)).map rowB)]) := by
        have := app_map (ob := [AObj.list 3 ((l.take i).map rowB)]) (fb := []) (nw := none) (o := 0) (n := i) (e := 3) (g := rowB) (l := l.take i) (m := [l[i]]) rfl rfl hti.symm (by omega) (by simp) rowB_len
        rw [List.take_succ_eq_append_getElem h]
        exact this
      simp (config := {maxSteps := 4000000}) only [U_law08_refs, d, islV_map (g := rowB) h (rowB_len _), rowB, ha, e1, reduceIte, reduceCtorEq, Nat.reduceEqDiff, Nat.reduceAdd, Int.reduceLT, Int.reduceLE, Int.reduceNeg, Int.reduceEq, Nat.reduceLT, Nat.reduceSub, Nat.reduceMul, Nat.reduceBEq, Nat.reduceLeDiff, Int.reduceBEq, Int.reduceBNe, Int.reduceToNat, ne_eq, implies_true, bA]
      exact ⟨i + 1, rfl, h, by omega⟩
    · have d : decide ((i : Int) < (l.length : Int)) = false := by simpa using h
      have : i = l.length := by omega
      subst this
      simp (config := {maxSteps := 4000000}) only [U_law08_refs, d, List.take_length, retO_list (e := 3) (rows := l.map rowB) (n := l.length) (by simp), reduceIte, reduceCtorEq, Nat.reduceEqDiff, Nat.reduceAdd, Int.reduceLT, Int.reduceLE, Int.reduceNeg, Int.reduceEq, Nat.reduceLT, Nat.reduceSub, Nat.reduceMul, Nat.reduceBEq, Nat.reduceLeDiff, Int.reduceBEq, Int.reduceBNe, Int.reduceToNat, ne_eq, implies_true, bA]

theorem picks_law (l : List Blk) (s : Int) (hm : l.length ≤ 9223372036854775807) : PCall Try.prog 4 [.slc (l.map rowB), .int .i64 s] (.bool true) := by
  refine pcall_go Try.func4 comp_law08_WearPicks ?_
  by_cases h : l.length ≤ 300
  · have d : decide ((300 : Int) < (l.length : Int)) = false := by simp; omega
    have hl : l.length ≤ 1000000 := by omega
    simp (config := {maxSteps := 4000000}) only [U_law08_WearPicks, d, reduceIte, reduceCtorEq, Nat.reduceEqDiff, Nat.reduceAdd, Int.reduceLT, Int.reduceLE, Int.reduceNeg, Int.reduceEq, Nat.reduceLT, Nat.reduceSub, Nat.reduceMul, Nat.reduceBEq, Nat.reduceLeDiff, Int.reduceBEq, Int.reduceBNe, Int.reduceToNat, ne_eq, implies_true, bA]
    refine callI awake08_spec ?_
    simp (config := {maxSteps := 4000000}) only [U_law08_WearPicks, reduceIte, reduceCtorEq, Nat.reduceEqDiff, Nat.reduceAdd, Int.reduceLT, Int.reduceLE, Int.reduceNeg, Int.reduceEq, Nat.reduceLT, Nat.reduceSub, Nat.reduceMul, Nat.reduceBEq, Nat.reduceLeDiff, Int.reduceBEq, Int.reduceBNe, Int.reduceToNat, ne_eq, implies_true, bA]
    refine callI (pick_spec l hl) ?_
    simp (config := {maxSteps := 4000000}) only [U_law08_WearPicks, reduceIte, reduceCtorEq, Nat.reduceEqDiff, Nat.reduceAdd, Int.reduceLT, Int.reduceLE, Int.reduceNeg, Int.reduceEq, Nat.reduceLT, Nat.reduceSub, Nat.reduceMul, Nat.reduceBEq, Nat.reduceLeDiff, Int.reduceBEq, Int.reduceBNe, Int.reduceToNat, ne_eq, implies_true, bA]
    refine callI (refs_spec l hl) ?_
    simp (config := {maxSteps := 4000000}) only [U_law08_WearPicks, reduceIte, reduceCtorEq, Nat.reduceEqDiff, Nat.reduceAdd, Int.reduceLT, Int.reduceLE, Int.reduceNeg, Int.reduceEq, Nat.reduceLT, Nat.reduceSub, Nat.reduceMul, Nat.reduceBEq, Nat.reduceLeDiff, Int.reduceBEq, Int.reduceBNe, Int.reduceToNat, ne_eq, implies_true, bA]
    refine callI (rpick_spec l hl) ?_
    simp (config := {maxSteps := 4000000}) only [U_law08_WearPicks, reduceIte, reduceCtorEq, Nat.reduceEqDiff, Nat.reduceAdd, Int.reduceLT, Int.reduceLE, Int.reduceNeg, Int.reduceEq, Nat.reduceLT, Nat.reduceSub, Nat.reduceMul, Nat.reduceBEq, Nat.reduceLeDiff, Int.reduceBEq, Int.reduceBNe, Int.reduceToNat, ne_eq, implies_true, bA]
    refine callI (count_spec l s hl) ?_
    simp (config := {maxSteps := 4000000}) only [U_law08_WearPicks, reduceIte, reduceCtorEq, Nat.reduceEqDiff, Nat.reduceAdd, Int.reduceLT, Int.reduceLE, Int.reduceNeg, Int.reduceEq, Nat.reduceLT, Nat.reduceSub, Nat.reduceMul, Nat.reduceBEq, Nat.reduceLeDiff, Int.reduceBEq, Int.reduceBNe, Int.reduceToNat, ne_eq, implies_true, bA]
    refine callI (refs_spec l hl) ?_
    simp (config := {maxSteps := 4000000}) only [U_law08_WearPicks, reduceIte, reduceCtorEq, Nat.reduceEqDiff, Nat.reduceAdd, Int.reduceLT, Int.reduceLE, Int.reduceNeg, Int.reduceEq, Nat.reduceLT, Nat.reduceSub, Nat.reduceMul, Nat.reduceBEq, Nat.reduceLeDiff, Int.reduceBEq, Int.reduceBNe, Int.reduceToNat, ne_eq, implies_true, bA]
    refine callI (rcount_spec l s hl) ?_
    simp (config := {maxSteps := 4000000}) only [U_law08_WearPicks, reduceIte, reduceCtorEq, Nat.reduceEqDiff, Nat.reduceAdd, Int.reduceLT, Int.reduceLE, Int.reduceNeg, Int.reduceEq, Nat.reduceLT, Nat.reduceSub, Nat.reduceMul, Nat.reduceBEq, Nat.reduceLeDiff, Int.reduceBEq, Int.reduceBNe, Int.reduceToNat, ne_eq, implies_true, bA]
  · have d : decide ((300 : Int) < (l.length : Int)) = true := by simp; omega
    simp (config := {maxSteps := 4000000}) only [U_law08_WearPicks, d, reduceIte, reduceCtorEq, Nat.reduceEqDiff, Nat.reduceAdd, Int.reduceLT, Int.reduceLE, Int.reduceNeg, Int.reduceEq, Nat.reduceLT, Nat.reduceSub, Nat.reduceMul, Nat.reduceBEq, Nat.reduceLeDiff, Int.reduceBEq, Int.reduceBNe, Int.reduceToNat, ne_eq, implies_true, bA]
    refine callI awake08_spec ?_
    simp (config := {maxSteps := 4000000}) only [U_law08_WearPicks, reduceIte, reduceCtorEq, Nat.reduceEqDiff, Nat.reduceAdd, Int.reduceLT, Int.reduceLE, Int.reduceNeg, Int.reduceEq, Nat.reduceLT, Nat.reduceSub, Nat.reduceMul, Nat.reduceBEq, Nat.reduceLeDiff, Int.reduceBEq, Int.reduceBNe, Int.reduceToNat, ne_eq, implies_true, bA]
theorem victims_law (l : List Blk) (hm : l.length ≤ 9223372036854775807) : PCall Try.prog 3 [.slc (l.map rowB)] (.bool true) := by
  refine pcall_go Try.func3 comp_law08_WearVictims ?_
  by_cases h : l.length ≤ 300
  · have d : decide ((300 : Int) < (l.length : Int)) = false := by simp; omega
    have hl : l.length ≤ 1000000 := by omega
    simp (config := {maxSteps := 4000000}) only [U_law08_WearVictims, d, reduceIte, reduceCtorEq, Nat.reduceEqDiff, Nat.reduceAdd, Int.reduceLT, Int.reduceLE, Int.reduceNeg, Int.reduceEq, Nat.reduceLT, Nat.reduceSub, Nat.reduceMul, Nat.reduceBEq, Nat.reduceLeDiff, Int.reduceBEq, Int.reduceBNe, Int.reduceToNat, ne_eq, implies_true, bA]
    refine callI awake08_spec ?_
    simp (config := {maxSteps := 4000000}) only [U_law08_WearVictims, reduceIte, reduceCtorEq, Nat.reduceEqDiff, Nat.reduceAdd, Int.reduceLT, Int.reduceLE, Int.reduceNeg, Int.reduceEq, Nat.reduceLT, Nat.reduceSub, Nat.reduceMul, Nat.reduceBEq, Nat.reduceLeDiff, Int.reduceBEq, Int.reduceBNe, Int.reduceToNat, ne_eq, implies_true, bA]
    refine callI (victim_spec l hl) ?_
    simp (config := {maxSteps := 4000000}) only [U_law08_WearVictims, reduceIte, reduceCtorEq, Nat.reduceEqDiff, Nat.reduceAdd, Int.reduceLT, Int.reduceLE, Int.reduceNeg, Int.reduceEq, Nat.reduceLT, Nat.reduceSub, Nat.reduceMul, Nat.reduceBEq, Nat.reduceLeDiff, Int.reduceBEq, Int.reduceBNe, Int.reduceToNat, ne_eq, implies_true, bA]
    refine callI (refs_spec l hl) ?_
    simp (config := {maxSteps := 4000000}) only [U_law08_WearVictims, reduceIte, reduceCtorEq, Nat.reduceEqDiff, Nat.reduceAdd, Int.reduceLT, Int.reduceLE, Int.reduceNeg, Int.reduceEq, Nat.reduceLT, Nat.reduceSub, Nat.reduceMul, Nat.reduceBEq, Nat.reduceLeDiff, Int.reduceBEq, Int.reduceBNe, Int.reduceToNat, ne_eq, implies_true, bA]
    refine callI (rvictim_spec l hl) ?_
    simp (config := {maxSteps := 4000000}) only [U_law08_WearVictims, reduceIte, reduceCtorEq, Nat.reduceEqDiff, Nat.reduceAdd, Int.reduceLT, Int.reduceLE, Int.reduceNeg, Int.reduceEq, Nat.reduceLT, Nat.reduceSub, Nat.reduceMul, Nat.reduceBEq, Nat.reduceLeDiff, Int.reduceBEq, Int.reduceBNe, Int.reduceToNat, ne_eq, implies_true, bA]
  · have d : decide ((300 : Int) < (l.length : Int)) = true := by simp; omega
    simp (config := {maxSteps := 4000000}) only [U_law08_WearVictims, d, reduceIte, reduceCtorEq, Nat.reduceEqDiff, Nat.reduceAdd, Int.reduceLT, Int.reduceLE, Int.reduceNeg, Int.reduceEq, Nat.reduceLT, Nat.reduceSub, Nat.reduceMul, Nat.reduceBEq, Nat.reduceLeDiff, Int.reduceBEq, Int.reduceBNe, Int.reduceToNat, ne_eq, implies_true, bA]
    refine callI awake08_spec ?_
    simp (config := {maxSteps := 4000000}) only [U_law08_WearVictims, reduceIte, reduceCtorEq, Nat.reduceEqDiff, Nat.reduceAdd, Int.reduceLT, Int.reduceLE, Int.reduceNeg, Int.reduceEq, Nat.reduceLT, Nat.reduceSub, Nat.reduceMul, Nat.reduceBEq, Nat.reduceLeDiff, Int.reduceBEq, Int.reduceBNe, Int.reduceToNat, ne_eq, implies_true, bA]
theorem colds_law (l : List Blk) (gap : Int) (hm : l.length ≤ 9223372036854775807) (hw : wornOk l) : PCall Try.prog 7 [.slc (l.map rowB), .int .i64 gap] (.bool true) := by
  refine pcall_go Try.func7 comp_law08_WearColds ?_
  by_cases h : l.length ≤ 300
  · have d : decide ((300 : Int) < (l.length : Int)) = false := by simp; omega
    have hl : l.length ≤ 1000000 := by omega
    simp (config := {maxSteps := 4000000}) only [U_law08_WearColds, d, reduceIte, reduceCtorEq, Nat.reduceEqDiff, Nat.reduceAdd, Int.reduceLT, Int.reduceLE, Int.reduceNeg, Int.reduceEq, Nat.reduceLT, Nat.reduceSub, Nat.reduceMul, Nat.reduceBEq, Nat.reduceLeDiff, Int.reduceBEq, Int.reduceBNe, Int.reduceToNat, ne_eq, implies_true, bA]
    refine callI awake08_spec ?_
    simp (config := {maxSteps := 4000000}) only [U_law08_WearColds, reduceIte, reduceCtorEq, Nat.reduceEqDiff, Nat.reduceAdd, Int.reduceLT, Int.reduceLE, Int.reduceNeg, Int.reduceEq, Nat.reduceLT, Nat.reduceSub, Nat.reduceMul, Nat.reduceBEq, Nat.reduceLeDiff, Int.reduceBEq, Int.reduceBNe, Int.reduceToNat, ne_eq, implies_true, bA]
    refine callI (gap_spec l hl hw) ?_
    simp (config := {maxSteps := 4000000}) only [U_law08_WearColds, reduceIte, reduceCtorEq, Nat.reduceEqDiff, Nat.reduceAdd, Int.reduceLT, Int.reduceLE, Int.reduceNeg, Int.reduceEq, Nat.reduceLT, Nat.reduceSub, Nat.reduceMul, Nat.reduceBEq, Nat.reduceLeDiff, Int.reduceBEq, Int.reduceBNe, Int.reduceToNat, ne_eq, implies_true, bA]
    refine callI (refs_spec l hl) ?_
    simp (config := {maxSteps := 4000000}) only [U_law08_WearColds, reduceIte, reduceCtorEq, Nat.reduceEqDiff, Nat.reduceAdd, Int.reduceLT, Int.reduceLE, Int.reduceNeg, Int.reduceEq, Nat.reduceLT, Nat.reduceSub, Nat.reduceMul, Nat.reduceBEq, Nat.reduceLeDiff, Int.reduceBEq, Int.reduceBNe, Int.reduceToNat, ne_eq, implies_true, bA]
    refine callI (rgap_spec l hl hw) ?_
    simp (config := {maxSteps := 4000000}) only [U_law08_WearColds, reduceIte, reduceCtorEq, Nat.reduceEqDiff, Nat.reduceAdd, Int.reduceLT, Int.reduceLE, Int.reduceNeg, Int.reduceEq, Nat.reduceLT, Nat.reduceSub, Nat.reduceMul, Nat.reduceBEq, Nat.reduceLeDiff, Int.reduceBEq, Int.reduceBNe, Int.reduceToNat, ne_eq, implies_true, bA]
    refine callI (cold_spec l gap hl hw) ?_
    simp (config := {maxSteps := 4000000}) only [U_law08_WearColds, reduceIte, reduceCtorEq, Nat.reduceEqDiff, Nat.reduceAdd, Int.reduceLT, Int.reduceLE, Int.reduceNeg, Int.reduceEq, Nat.reduceLT, Nat.reduceSub, Nat.reduceMul, Nat.reduceBEq, Nat.reduceLeDiff, Int.reduceBEq, Int.reduceBNe, Int.reduceToNat, ne_eq, implies_true, bA]
    refine callI (refs_spec l hl) ?_
    simp (config := {maxSteps := 4000000}) only [U_law08_WearColds, reduceIte, reduceCtorEq, Nat.reduceEqDiff, Nat.reduceAdd, Int.reduceLT, Int.reduceLE, Int.reduceNeg, Int.reduceEq, Nat.reduceLT, Nat.reduceSub, Nat.reduceMul, Nat.reduceBEq, Nat.reduceLeDiff, Int.reduceBEq, Int.reduceBNe, Int.reduceToNat, ne_eq, implies_true, bA]
    refine callI (rcold_spec l gap hl hw) ?_
    simp (config := {maxSteps := 4000000}) only [U_law08_WearColds, reduceIte, reduceCtorEq, Nat.reduceEqDiff, Nat.reduceAdd, Int.reduceLT, Int.reduceLE, Int.reduceNeg, Int.reduceEq, Nat.reduceLT, Nat.reduceSub, Nat.reduceMul, Nat.reduceBEq, Nat.reduceLeDiff, Int.reduceBEq, Int.reduceBNe, Int.reduceToNat, ne_eq, implies_true, bA]
  · have d : decide ((300 : Int) < (l.length : Int)) = true := by simp; omega
    simp (config := {maxSteps := 4000000}) only [U_law08_WearColds, d, reduceIte, reduceCtorEq, Nat.reduceEqDiff, Nat.reduceAdd, Int.reduceLT, Int.reduceLE, Int.reduceNeg, Int.reduceEq, Nat.reduceLT, Nat.reduceSub, Nat.reduceMul, Nat.reduceBEq, Nat.reduceLeDiff, Int.reduceBEq, Int.reduceBNe, Int.reduceToNat, ne_eq, implies_true, bA]
    refine callI awake08_spec ?_
    simp (config := {maxSteps := 4000000}) only [U_law08_WearColds, reduceIte, reduceCtorEq, Nat.reduceEqDiff, Nat.reduceAdd, Int.reduceLT, Int.reduceLE, Int.reduceNeg, Int.reduceEq, Nat.reduceLT, Nat.reduceSub, Nat.reduceMul, Nat.reduceBEq, Nat.reduceLeDiff, Int.reduceBEq, Int.reduceBNe, Int.reduceToNat, ne_eq, implies_true, bA]

abbrev shB : Sh := .st [.int .i64, .int .i64, .int .i64]
theorem fit_blk {cs : List PV} (h : shB.fit cs) : ∃ b : Blk, cs = rowB b ∧ b.wo ≤ 9223372036854775807 := by
  obtain ⟨_, _, rfl, ⟨x, rfl, _⟩, _, _, rfl, ⟨y, rfl, _⟩, _, _, rfl, ⟨z, rfl, hz⟩, rfl⟩ := h
  exact ⟨⟨x, y, z⟩, rfl, (bounds_i64 hz).2⟩
theorem rows_blk : ∀ (rows : List (List PV)), (∀ r ∈ rows, shB.fit r) → ∃ l : List Blk, rows = l.map rowB ∧ wornOk l
  | [], _ => ⟨[], rfl, fun _ h => by cases h⟩
  | r :: rows, h => by
    obtain ⟨l, h1, h2⟩ := rows_blk rows fun x hx => h x (List.mem_cons_of_mem _ hx)
    obtain ⟨b, h3, h4⟩ := fit_blk (h r (by simp))
    exact ⟨b :: l, by rw [h1, h3]; rfl, fun x hx => (List.mem_cons.1 hx).elim (fun e => e ▸ h4) (h2 x)⟩
theorem picks_fit (ps : List PV) (h : fitVs [.sl shB, .int .i64] ps) : PCall Try.prog 4 ps (.bool true) := by
  obtain ⟨_, _, rfl, ⟨rows, hr, hl, hf⟩, _, _, rfl, ⟨s, hs, ws⟩, rfl⟩ := h
  cases hr; cases hs
  obtain ⟨l, rfl, _⟩ := rows_blk rows hf
  exact picks_law l s (by simpa [maxLen] using hl)
theorem victims_fit (ps : List PV) (h : fitVs [.sl shB] ps) : PCall Try.prog 3 ps (.bool true) := by
  obtain ⟨_, _, rfl, ⟨rows, hr, hl, hf⟩, rfl⟩ := h
  cases hr
  obtain ⟨l, rfl, _⟩ := rows_blk rows hf
  exact victims_law l (by simpa [maxLen] using hl)
theorem colds_fit (ps : List PV) (h : fitVs [.sl shB, .int .i64] ps) : PCall Try.prog 7 ps (.bool true) := by
  obtain ⟨_, _, rfl, ⟨rows, hr, hl, hf⟩, _, _, rfl, ⟨s, hs, ws⟩, rfl⟩ := h
  cases hr; cases hs
  obtain ⟨l, rfl, hw⟩ := rows_blk rows hf
  exact colds_law l s (by simpa [maxLen] using hl) hw
end Go.Proofs.Ytfdehjkpglkheaa.Aw
