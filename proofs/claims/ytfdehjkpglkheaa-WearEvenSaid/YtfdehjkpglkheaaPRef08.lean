/-
  The document's functions of layer 8: they answer the same.
-/
import Derived.Test.YtfdehjkpglkheaaPWear2
set_option linter.unusedSimpArgs false
set_option linter.unusedVariables false
namespace Go.Proofs.Ytfdehjkpglkheaa.Aw
open Go.RowKit

theorem rworn_spec (n : Int) : PCall Try.prog 28 [.int .i64 n] (.int .i64 (if n < 0 then 0 else n)) := by
  refine pcall_go Try.func28 comp_ref08_worn ?_
  by_cases h : n < 0
  · have d : decide (n < 0) = true := by simpa using h
    simp (config := {maxSteps := 4000000}) only [U_ref08_worn, d, reduceIte, reduceCtorEq, Nat.reduceEqDiff, Nat.reduceAdd, Int.reduceLT, Int.reduceLE, Int.reduceNeg, Int.reduceEq, Nat.reduceLT, Nat.reduceSub, Nat.reduceMul, Nat.reduceBEq, Nat.reduceLeDiff, Int.reduceBEq, Int.reduceBNe, Int.reduceToNat, ne_eq, implies_true, bA]
    simp [h]
  · have d : decide (n < 0) = false := by simpa using h
    simp (config := {maxSteps := 4000000}) only [U_ref08_worn, d, reduceIte, reduceCtorEq, Nat.reduceEqDiff, Nat.reduceAdd, Int.reduceLT, Int.reduceLE, Int.reduceNeg, Int.reduceEq, Nat.reduceLT, Nat.reduceSub, Nat.reduceMul, Nat.reduceBEq, Nat.reduceLeDiff, Int.reduceBEq, Int.reduceBNe, Int.reduceToNat, ne_eq, implies_true, bA]
    simp [h]
theorem rwornB (b : Blk) : PCall Try.prog 28 [.int .i64 b.wo] (.int .i64 (wornS b)) := rworn_spec b.wo

theorem kWorn_lt {a b : Blk} : ltK (kWorn a) (kWorn b) ↔ wornS a < wornS b := by simp [ltK, kWorn]
theorem kMost_lt {a b : Blk} : ltK (kMost a) (kMost b) ↔ wornS b < wornS a := by simp only [ltK, kMost]; omega

theorem rpick_spec (l : List Blk) (hl : l.length ≤ 1000000) : PCall Try.prog 13 [.slc (l.map rowB)] (.int .i64 (pickS l)) := by
  refine pcall_go Try.func13 comp_ref08_Pick ?_
  have e0 : IntKind.i64.wrap ((l.length : Int) - 1) = (l.length : Int) - 1 := wrapI (by omega) (by omega)
  simp (config := {maxSteps := 4000000}) only [U_ref08_Pick, e0, reduceIte, reduceCtorEq, Nat.reduceEqDiff, Nat.reduceAdd, Int.reduceLT, Int.reduceLE, Int.reduceNeg, Int.reduceEq, Nat.reduceLT, Nat.reduceSub, Nat.reduceMul, Nat.reduceBEq, Nat.reduceLeDiff, Int.reduceBEq, Int.reduceBNe, Int.reduceToNat, ne_eq, implies_true, bA]
  refine loopF (fun x : Nat × Int => ⟨ofL [(0, .slc (l.map rowB)), (3, .int .i64 x.2), (4, .int .i64 ((x.1 : Int) - 1))], []⟩) (fun x => x.1 ≤ l.length ∧ First kWorn (isS 0) l x.1 l.length x.2) (fun x => x.1) (l.length, -1) ?_ ⟨Nat.le_refl _, First.none _⟩ ?_
  · simp (config := {maxSteps := 4000000}) only [U_ref08_Pick, reduceIte, reduceCtorEq, Nat.reduceEqDiff, Nat.reduceAdd, Int.reduceLT, Int.reduceLE, Int.reduceNeg, Int.reduceEq, Nat.reduceLT, Nat.reduceSub, Nat.reduceMul, Nat.reduceBEq, Nat.reduceLeDiff, Int.reduceBEq, Int.reduceBNe, Int.reduceToNat, ne_eq, implies_true, bA]
    all_goals rfl
  · intro ⟨n, best⟩ ⟨hi, hf⟩
    simp only [] at hi hf ⊢
    by_cases h : n = 0
    · have d : decide (0 ≤ (n : Int) - 1) = false := by simp; omega
      simp (config := {maxSteps := 4000000}) only [U_ref08_Pick, d, reduceIte, reduceCtorEq, Nat.reduceEqDiff, Nat.reduceAdd, Int.reduceLT, Int.reduceLE, Int.reduceNeg, Int.reduceEq, Nat.reduceLT, Nat.reduceSub, Nat.reduceMul, Nat.reduceBEq, Nat.reduceLeDiff, Int.reduceBEq, Int.reduceBNe, Int.reduceToNat, ne_eq, implies_true, bA]
      rw [h] at hf
      rw [pickS, ← firstN_uniq hf]
    · obtain ⟨i, rfl⟩ : ∃ i, n = i + 1 := ⟨n - 1, by omega⟩
      have e1 : ((i + 1 : Nat) : Int) - 1 = (i : Int) := by omega
      have d : decide (0 ≤ (i : Int)) = true := by simp
      have hil : i < l.length := by omega
      have hb := bl_at hil
      have e2 : IntKind.i64.wrap ((i : Int) - 1) = (i : Int) - 1 := wrapI (by omega) (by omega)
      have hdn := hf.down hi
      have hlt := hf.lt
      by_cases h0 : l[i].st = 0
      · have d0 : (l[i].st == 0) = true := by simpa using h0
        have hc : isS 0 (bl l i) = true := by rw [hb]; simpa [isS] using h0
        by_cases h2 : best < 0
        · have d2 : decide (best < 0) = true := by simpa using h2
          simp (config := {maxSteps := 4000000}) only [U_ref08_Pick, e1, d, islV_map (g := rowB) hil (rowB_len _), rowB, d0, d2, e2, reduceIte, reduceCtorEq, Nat.reduceEqDiff, Nat.reduceAdd, Int.reduceLT, Int.reduceLE, Int.reduceNeg, Int.reduceEq, Nat.reduceLT, Nat.reduceSub, Nat.reduceMul, Nat.reduceBEq, Nat.reduceLeDiff, Int.reduceBEq, Int.reduceBNe, Int.reduceToNat, ne_eq, implies_true, bA]
          refine ⟨(i, (i : Int)), rfl, ⟨by omega, ?_⟩, by show i < i + 1; omega⟩
          rwa [if_pos ⟨hc, .inl h2⟩] at hdn
        · have d2 : decide (best < 0) = false := by simpa using h2
          obtain ⟨k, rfl⟩ : ∃ k : Nat, best = k := ⟨best.toNat, by omega⟩
          have hkl : k < l.length := by omega
          have hbk := bl_at hkl
          simp only [Int.toNat_natCast, kWorn_lt, hb, hbk] at hdn
          simp (config := {maxSteps := 4000000}) only [U_ref08_Pick, e1, d, islV_map (g := rowB) hil (rowB_len _), islV_map (g := rowB) hkl (rowB_len _), rowB, d0, d2, e2, reduceIte, reduceCtorEq, Nat.reduceEqDiff, Nat.reduceAdd, Int.reduceLT, Int.reduceLE, Int.reduceNeg, Int.reduceEq, Nat.reduceLT, Nat.reduceSub, Nat.reduceMul, Nat.reduceBEq, Nat.reduceLeDiff, Int.reduceBEq, Int.reduceBNe, Int.reduceToNat, ne_eq, implies_true, bA]
          refine callI (rwornB l[i]) ?_
          simp (config := {maxSteps := 4000000}) only [U_ref08_Pick, e1, d, islV_map (g := rowB) hil (rowB_len _), islV_map (g := rowB) hkl (rowB_len _), rowB, d0, d2, e2, reduceIte, reduceCtorEq, Nat.reduceEqDiff, Nat.reduceAdd, Int.reduceLT, Int.reduceLE, Int.reduceNeg, Int.reduceEq, Nat.reduceLT, Nat.reduceSub, Nat.reduceMul, Nat.reduceBEq, Nat.reduceLeDiff, Int.reduceBEq, Int.reduceBNe, Int.reduceToNat, ne_eq, implies_true, bA]
          refine callI (rwornB l[k]) ?_
          by_cases h3 : wornS l[i] ≤ wornS l[k]
          · have d3 : decide (wornS l[i] ≤ wornS l[k]) = true := by simpa using h3
            simp (config := {maxSteps := 4000000}) only [U_ref08_Pick, d3, e2, reduceIte, reduceCtorEq, Nat.reduceEqDiff, Nat.reduceAdd, Int.reduceLT, Int.reduceLE, Int.reduceNeg, Int.reduceEq, Nat.reduceLT, Nat.reduceSub, Nat.reduceMul, Nat.reduceBEq, Nat.reduceLeDiff, Int.reduceBEq, Int.reduceBNe, Int.reduceToNat, ne_eq, implies_true, bA]
            refine ⟨(i, (i : Int)), rfl, ⟨by omega, ?_⟩, by show i < i + 1; omega⟩
            rwa [if_pos ⟨by rw [← hb]; exact hc, .inr (by omega)⟩] at hdn
          · have d3 : decide (wornS l[i] ≤ wornS l[k]) = false := by simpa using h3
            simp (config := {maxSteps := 4000000}) only [U_ref08_Pick, d3, e2, reduceIte, reduceCtorEq, Nat.reduceEqDiff, Nat.reduceAdd, Int.reduceLT, Int.reduceLE, Int.reduceNeg, Int.reduceEq, Nat.reduceLT, Nat.reduceSub, Nat.reduceMul, Nat.reduceBEq, Nat.reduceLeDiff, Int.reduceBEq, Int.reduceBNe, Int.reduceToNat, ne_eq, implies_true, bA]
            refine ⟨(i, (k : Int)), rfl, ⟨by omega, ?_⟩, by show i < i + 1; omega⟩
            rwa [if_neg (fun hh => hh.2.elim (fun h => by omega) (fun h => by omega))] at hdn
      · have d0 : (l[i].st == 0) = false := by simpa using h0
        simp (config := {maxSteps := 4000000}) only [U_ref08_Pick, e1, d, islV_map (g := rowB) hil (rowB_len _), rowB, d0, e2, reduceIte, reduceCtorEq, Nat.reduceEqDiff, Nat.reduceAdd, Int.reduceLT, Int.reduceLE, Int.reduceNeg, Int.reduceEq, Nat.reduceLT, Nat.reduceSub, Nat.reduceMul, Nat.reduceBEq, Nat.reduceLeDiff, Int.reduceBEq, Int.reduceBNe, Int.reduceToNat, ne_eq, implies_true, bA]
        refine ⟨(i, best), rfl, ⟨by omega, ?_⟩, by show i < i + 1; omega⟩
        rwa [if_neg (fun hh => by rw [hb] at hh; exact h0 (by simpa [isS] using hh.1))] at hdn

theorem rcount_spec (l : List Blk) (s : Int) (hl : l.length ≤ 1000000) : PCall Try.prog 15 [.slc (l.map rowB), .int .i64 s] (.int .i64 (countN l s l.length)) := by
  refine pcall_go Try.func15 comp_ref08_Count ?_
  simp (config := {maxSteps := 4000000}) only [U_ref08_Count, reduceIte, reduceCtorEq, Nat.reduceEqDiff, Nat.reduceAdd, Int.reduceLT, Int.reduceLE, Int.reduceNeg, Int.reduceEq, Nat.reduceLT, Nat.reduceSub, Nat.reduceMul, Nat.reduceBEq, Nat.reduceLeDiff, Int.reduceBEq, Int.reduceBNe, Int.reduceToNat, ne_eq, implies_true, bA]
  refine loopF (fun i : Nat => ⟨ofL [(0, .slc (l.map rowB)), (1, .int .i64 s), (5, .int .i64 (countN l s i)), (6, .int .i64 i)], []⟩) (fun i => i ≤ l.length) (fun i => l.length - i) 0 ?_ (Nat.zero_le _) ?_
  · simp (config := {maxSteps := 4000000}) only [U_ref08_Count, reduceIte, reduceCtorEq, Nat.reduceEqDiff, Nat.reduceAdd, Int.reduceLT, Int.reduceLE, Int.reduceNeg, Int.reduceEq, Nat.reduceLT, Nat.reduceSub, Nat.reduceMul, Nat.reduceBEq, Nat.reduceLeDiff, Int.reduceBEq, Int.reduceBNe, Int.reduceToNat, ne_eq, implies_true, bA]
    all_goals rfl
  · intro i hi
    by_cases h : i < l.length
    · have d : decide ((i : Int) < (l.length : Int)) = true := by simpa using h
      have e1 : IntKind.i64.wrap ((i : Int) + 1) = ((i + 1 : Nat) : Int) := by rw [wrapI (by omega) (by omega)]; omega
      have hc := countN_le l s i
      have e2 : IntKind.i64.wrap ((countN l s i : Int) + 1) = ((countN l s i + 1 : Nat) : Int) := by rw [wrapI (by omega) (by omega)]; omega
      have hb := bl_at h
      by_cases hs : l[i].st = s
      · have d2 : (l[i].st == s) = true := by simpa using hs
        simp (config := {maxSteps := 4000000}) only [U_ref08_Count, d, islV_map (g := rowB) h (rowB_len _), rowB, d2, e1, e2, reduceIte, reduceCtorEq, Nat.reduceEqDiff, Nat.reduceAdd, Int.reduceLT, Int.reduceLE, Int.reduceNeg, Int.reduceEq, Nat.reduceLT, Nat.reduceSub, Nat.reduceMul, Nat.reduceBEq, Nat.reduceLeDiff, Int.reduceBEq, Int.reduceBNe, Int.reduceToNat, ne_eq, implies_true, bA]
        exact ⟨i + 1, by simp only [countN, hb, hs, if_true], h, by omega⟩
      · have d2 : (l[i].st == s) = false := by simpa using hs
        simp (config := {maxSteps := 4000000}) only [U_ref08_Count, d, islV_map (g := rowB) h (rowB_len _), rowB, d2, e1, reduceIte, reduceCtorEq, Nat.reduceEqDiff, Nat.reduceAdd, Int.reduceLT, Int.reduceLE, Int.reduceNeg, Int.reduceEq, Nat.reduceLT, Nat.reduceSub, Nat.reduceMul, Nat.reduceBEq, Nat.reduceLeDiff, Int.reduceBEq, Int.reduceBNe, Int.reduceToNat, ne_eq, implies_true, bA]
        exact ⟨i + 1, by simp only [countN, hb, hs, if_false], h, by omega⟩
    · have d : decide ((i : Int) < (l.length : Int)) = false := by simpa using h
      have : i = l.length := by omega
      subst this
      simp (config := {maxSteps := 4000000}) only [U_ref08_Count, d, reduceIte, reduceCtorEq, Nat.reduceEqDiff, Nat.reduceAdd, Int.reduceLT, Int.reduceLE, Int.reduceNeg, Int.reduceEq, Nat.reduceLT, Nat.reduceSub, Nat.reduceMul, Nat.reduceBEq, Nat.reduceLeDiff, Int.reduceBEq, Int.reduceBNe, Int.reduceToNat, ne_eq, implies_true, bA]

theorem rvictim_spec (l : List Blk) (hl : l.length ≤ 1000000) : PCall Try.prog 10 [.slc (l.map rowB)] (.int .i64 (victimS l)) := by
  refine pcall_go Try.func10 comp_ref08_Victim ?_
  simp (config := {maxSteps := 4000000}) only [U_ref08_Victim, reduceIte, reduceCtorEq, Nat.reduceEqDiff, Nat.reduceAdd, Int.reduceLT, Int.reduceLE, Int.reduceNeg, Int.reduceEq, Nat.reduceLT, Nat.reduceSub, Nat.reduceMul, Nat.reduceBEq, Nat.reduceLeDiff, Int.reduceBEq, Int.reduceBNe, Int.reduceToNat, ne_eq, implies_true, bA]
  refine loopF (fun i : Nat => ⟨ofL [(0, .slc (l.map rowB)), (3, .int .i64 i)], []⟩) (fun i => i ≤ l.length ∧ ∀ j, j < i → badS (bl l j) = false) (fun i => l.length - i) 0 ?_ ⟨Nat.zero_le _, by omega⟩ ?_
  · simp (config := {maxSteps := 4000000}) only [U_ref08_Victim, reduceIte, reduceCtorEq, Nat.reduceEqDiff, Nat.reduceAdd, Int.reduceLT, Int.reduceLE, Int.reduceNeg, Int.reduceEq, Nat.reduceLT, Nat.reduceSub, Nat.reduceMul, Nat.reduceBEq, Nat.reduceLeDiff, Int.reduceBEq, Int.reduceBNe, Int.reduceToNat, ne_eq, implies_true, bA]
    all_goals rfl
  · intro i ⟨hi, hf⟩
    by_cases h : i < l.length
    · have d : decide ((i : Int) < (l.length : Int)) = true := by simpa using h
      have e1 : IntKind.i64.wrap ((i : Int) + 1) = ((i + 1 : Nat) : Int) := by rw [wrapI (by omega) (by omega)]; omega
      have hb := bl_at h
      have hgo : badS l[i] = false → ∀ j, j < i + 1 → badS (bl l j) = false := by
        intro hb' j hj
        by_cases e : j = i
        · subst e; rw [hb]; exact hb'
        · exact hf j (by omega)
      by_cases h3 : l[i].st = 3
      · have d3 : (l[i].st == 3) = true := by simpa using h3
        by_cases h4 : 0 < l[i].va
        · have d4 : decide (0 < l[i].va) = true := by simpa using h4
          have hv : badN l = i := by
            refine (firstN_uniq ?_).symm
            refine .inr ⟨i, rfl, Nat.zero_le _, h, by rw [hb]; simp [badS, h3, h4], fun j _ hj hc => ⟨fun hlt => ?_, by simp [ltK, kZero]⟩⟩
            rw [hf j hlt] at hc; cases hc
          have hv2 : victimS l = i := by rw [victimS, hv, if_pos (by omega)]
          simp (config := {maxSteps := 4000000}) only [U_ref08_Victim, d, islV_map (g := rowB) h (rowB_len _), rowB, d3, d4, hv2, reduceIte, reduceCtorEq, Nat.reduceEqDiff, Nat.reduceAdd, Int.reduceLT, Int.reduceLE, Int.reduceNeg, Int.reduceEq, Nat.reduceLT, Nat.reduceSub, Nat.reduceMul, Nat.reduceBEq, Nat.reduceLeDiff, Int.reduceBEq, Int.reduceBNe, Int.reduceToNat, ne_eq, implies_true, bA]
        · have d4 : decide (0 < l[i].va) = false := by simpa using h4
          simp (config := {maxSteps := 4000000}) only [U_ref08_Victim, d, islV_map (g := rowB) h (rowB_len _), rowB, d3, d4, e1, reduceIte, reduceCtorEq, Nat.reduceEqDiff, Nat.reduceAdd, Int.reduceLT, Int.reduceLE, Int.reduceNeg, Int.reduceEq, Nat.reduceLT, Nat.reduceSub, Nat.reduceMul, Nat.reduceBEq, Nat.reduceLeDiff, Int.reduceBEq, Int.reduceBNe, Int.reduceToNat, ne_eq, implies_true, bA]
          exact ⟨i + 1, rfl, ⟨h, hgo (by simp [badS, h4])⟩, by omega⟩
      · have d3 : (l[i].st == 3) = false := by simpa using h3
        simp (config := {maxSteps := 4000000}) only [U_ref08_Victim, d, islV_map (g := rowB) h (rowB_len _), rowB, d3, e1, reduceIte, reduceCtorEq, Nat.reduceEqDiff, Nat.reduceAdd, Int.reduceLT, Int.reduceLE, Int.reduceNeg, Int.reduceEq, Nat.reduceLT, Nat.reduceSub, Nat.reduceMul, Nat.reduceBEq, Nat.reduceLeDiff, Int.reduceBEq, Int.reduceBNe, Int.reduceToNat, ne_eq, implies_true, bA]
        exact ⟨i + 1, rfl, ⟨h, hgo (by simp [badS, h3])⟩, by omega⟩
    · have d : decide ((i : Int) < (l.length : Int)) = false := by simpa using h
      have : i = l.length := by omega
      subst this
      have hv : badN l = -1 := (firstN_uniq (.inl ⟨rfl, fun j _ hj => hf j hj⟩)).symm
      have hv2 : victimS l = firstN kVic (isS 2) l l.length := by rw [victimS, hv, if_neg (by omega)]
      simp (config := {maxSteps := 4000000}) only [U_ref08_Victim, d, reduceIte, reduceCtorEq, Nat.reduceEqDiff, Nat.reduceAdd, Int.reduceLT, Int.reduceLE, Int.reduceNeg, Int.reduceEq, Nat.reduceLT, Nat.reduceSub, Nat.reduceMul, Nat.reduceBEq, Nat.reduceLeDiff, Int.reduceBEq, Int.reduceBNe, Int.reduceToNat, ne_eq, implies_true, bA]
      refine loopF (fun i : Nat => ⟨ofL [(0, .slc (l.map rowB)), (4, .int .i64 (firstN kVic (isS 2) l i)), (5, .int .i64 i)], []⟩) (fun i => i ≤ l.length) (fun i => l.length - i) 0 ?_ (Nat.zero_le _) ?_
      · simp (config := {maxSteps := 4000000}) only [U_ref08_Victim, reduceIte, reduceCtorEq, Nat.reduceEqDiff, Nat.reduceAdd, Int.reduceLT, Int.reduceLE, Int.reduceNeg, Int.reduceEq, Nat.reduceLT, Nat.reduceSub, Nat.reduceMul, Nat.reduceBEq, Nat.reduceLeDiff, Int.reduceBEq, Int.reduceBNe, Int.reduceToNat, ne_eq, implies_true, bA]
        all_goals rfl
      · intro i hi
        by_cases h : i < l.length
        · have d : decide ((i : Int) < (l.length : Int)) = true := by simpa using h
          have e1 : IntKind.i64.wrap ((i : Int) + 1) = ((i + 1 : Nat) : Int) := by rw [wrapI (by omega) (by omega)]; omega
          have hb := bl_at h
          have hlt := firstN_lt kVic (isS 2) l i
          by_cases h2 : l[i].st = 2
          · have d2 : (l[i].st != 2) = false := by simpa using h2
            have hc : isS 2 l[i] = true := by simpa [isS] using h2
            by_cases h3 : firstN kVic (isS 2) l i < 0
            · have d3 : decide (firstN kVic (isS 2) l i < 0) = true := by simpa using h3
              simp (config := {maxSteps := 4000000}) only [U_ref08_Victim, d, islV_map (g := rowB) h (rowB_len _), rowB, d2, d3, e1, reduceIte, reduceCtorEq, Nat.reduceEqDiff, Nat.reduceAdd, Int.reduceLT, Int.reduceLE, Int.reduceNeg, Int.reduceEq, Nat.reduceLT, Nat.reduceSub, Nat.reduceMul, Nat.reduceBEq, Nat.reduceLeDiff, Int.reduceBEq, Int.reduceBNe, Int.reduceToNat, ne_eq, implies_true, bA]
              exact ⟨i + 1, by rw [firstN, hb, if_pos ⟨hc, .inl h3⟩], h, by omega⟩
            · have d3 : decide (firstN kVic (isS 2) l i < 0) = false := by simpa using h3
              have hfu : firstN kVic (isS 2) l (i + 1) = if isS 2 (bl l i) = true ∧ (firstN kVic (isS 2) l i < 0 ∨ ltK (kVic (bl l i)) (kVic (bl l (firstN kVic (isS 2) l i).toNat))) then (i : Int) else firstN kVic (isS 2) l i := rfl
              obtain ⟨k, hk⟩ : ∃ k : Nat, firstN kVic (isS 2) l i = k := ⟨(firstN kVic (isS 2) l i).toNat, by omega⟩
              rw [hk] at d3 hlt hfu ⊢
              have hkl : k < l.length := by omega
              have hbk := bl_at hkl
              simp only [Int.toNat_natCast, hb, hbk] at hfu
              by_cases h4 : l[i].va < l[k].va
              · have d4 : decide (l[i].va < l[k].va) = true := by simpa using h4
                rw [if_pos ⟨hc, .inr (.inl h4)⟩] at hfu
                simp (config := {maxSteps := 4000000}) only [U_ref08_Victim, d, islV_map (g := rowB) h (rowB_len _), islV_map (g := rowB) hkl (rowB_len _), rowB, d2, d3, d4, e1, reduceIte, reduceCtorEq, Nat.reduceEqDiff, Nat.reduceAdd, Int.reduceLT, Int.reduceLE, Int.reduceNeg, Int.reduceEq, Nat.reduceLT, Nat.reduceSub, Nat.reduceMul, Nat.reduceBEq, Nat.reduceLeDiff, Int.reduceBEq, Int.reduceBNe, Int.reduceToNat, ne_eq, implies_true, bA]
                exact ⟨i + 1, by rw [hfu], h, by omega⟩
              · have d4 : decide (l[i].va < l[k].va) = false := by simpa using h4
                by_cases h5 : l[i].va = l[k].va
                · have d5 : (l[i].va == l[k].va) = true := by simpa using h5
                  simp (config := {maxSteps := 4000000}) only [U_ref08_Victim, d, islV_map (g := rowB) h (rowB_len _), islV_map (g := rowB) hkl (rowB_len _), rowB, d2, d3, d4, d5, e1, reduceIte, reduceCtorEq, Nat.reduceEqDiff, Nat.reduceAdd, Int.reduceLT, Int.reduceLE, Int.reduceNeg, Int.reduceEq, Nat.reduceLT, Nat.reduceSub, Nat.reduceMul, Nat.reduceBEq, Nat.reduceLeDiff, Int.reduceBEq, Int.reduceBNe, Int.reduceToNat, ne_eq, implies_true, bA]
                  refine callI (rwornB l[i]) ?_
                  simp (config := {maxSteps := 4000000}) only [U_ref08_Victim, d, islV_map (g := rowB) h (rowB_len _), islV_map (g := rowB) hkl (rowB_len _), rowB, d2, d3, d4, d5, e1, reduceIte, reduceCtorEq, Nat.reduceEqDiff, Nat.reduceAdd, Int.reduceLT, Int.reduceLE, Int.reduceNeg, Int.reduceEq, Nat.reduceLT, Nat.reduceSub, Nat.reduceMul, Nat.reduceBEq, Nat.reduceLeDiff, Int.reduceBEq, Int.reduceBNe, Int.reduceToNat, ne_eq, implies_true, bA]
                  refine callI (rwornB l[k]) ?_
                  by_cases h6 : wornS l[i] < wornS l[k]
                  · have d6 : decide (wornS l[i] < wornS l[k]) = true := by simpa using h6
                    rw [if_pos ⟨hc, .inr (.inr ⟨h5, h6⟩)⟩] at hfu
                    simp (config := {maxSteps := 4000000}) only [U_ref08_Victim, d6, e1, reduceIte, reduceCtorEq, Nat.reduceEqDiff, Nat.reduceAdd, Int.reduceLT, Int.reduceLE, Int.reduceNeg, Int.reduceEq, Nat.reduceLT, Nat.reduceSub, Nat.reduceMul, Nat.reduceBEq, Nat.reduceLeDiff, Int.reduceBEq, Int.reduceBNe, Int.reduceToNat, ne_eq, implies_true, bA]
                    exact ⟨i + 1, by rw [hfu], h, by omega⟩
                  · have d6 : decide (wornS l[i] < wornS l[k]) = false := by simpa using h6
                    rw [if_neg (fun hh => hh.2.elim (fun h => by omega) fun h => h.elim h4 fun h => h6 h.2)] at hfu
                    simp (config := {maxSteps := 4000000}) only [U_ref08_Victim, d6, e1, reduceIte, reduceCtorEq, Nat.reduceEqDiff, Nat.reduceAdd, Int.reduceLT, Int.reduceLE, Int.reduceNeg, Int.reduceEq, Nat.reduceLT, Nat.reduceSub, Nat.reduceMul, Nat.reduceBEq, Nat.reduceLeDiff, Int.reduceBEq, Int.reduceBNe, Int.reduceToNat, ne_eq, implies_true, bA]
                    exact ⟨i + 1, by rw [hfu], h, by omega⟩
                · have d5 : (l[i].va == l[k].va) = false := by simpa using h5
                  rw [if_neg (fun hh => hh.2.elim (fun h => by omega) fun h => h.elim h4 fun h => h5 h.1)] at hfu
                  simp (config := {maxSteps := 4000000}) only [U_ref08_Victim, d, islV_map (g := rowB) h (rowB_len _), islV_map (g := rowB) hkl (rowB_len _), rowB, d2, d3, d4, d5, e1, reduceIte, reduceCtorEq, Nat.reduceEqDiff, Nat.reduceAdd, Int.reduceLT, Int.reduceLE, Int.reduceNeg, Int.reduceEq, Nat.reduceLT, Nat.reduceSub, Nat.reduceMul, Nat.reduceBEq, Nat.reduceLeDiff, Int.reduceBEq, Int.reduceBNe, Int.reduceToNat, ne_eq, implies_true, bA]
                  exact ⟨i + 1, by rw [hfu], h, by omega⟩
          · have d2 : (l[i].st != 2) = true := by simpa using h2
            simp (config := {maxSteps := 4000000}) only [U_ref08_Victim, d, islV_map (g := rowB) h (rowB_len _), rowB, d2, e1, reduceIte, reduceCtorEq, Nat.reduceEqDiff, Nat.reduceAdd, Int.reduceLT, Int.reduceLE, Int.reduceNeg, Int.reduceEq, Nat.reduceLT, Nat.reduceSub, Nat.reduceMul, Nat.reduceBEq, Nat.reduceLeDiff, Int.reduceBEq, Int.reduceBNe, Int.reduceToNat, ne_eq, implies_true, bA]
            exact ⟨i + 1, by rw [firstN, hb, if_neg (fun hh => h2 (by simpa [isS] using hh.1))], h, by omega⟩
        · have d : decide ((i : Int) < (l.length : Int)) = false := by simpa using h
          have : i = l.length := by omega
          subst this
          simp (config := {maxSteps := 4000000}) only [U_ref08_Victim, d, hv2, reduceIte, reduceCtorEq, Nat.reduceEqDiff, Nat.reduceAdd, Int.reduceLT, Int.reduceLE, Int.reduceNeg, Int.reduceEq, Nat.reduceLT, Nat.reduceSub, Nat.reduceMul, Nat.reduceBEq, Nat.reduceLeDiff, Int.reduceBEq, Int.reduceBNe, Int.reduceToNat, ne_eq, implies_true, bA]

def someN (l : List Blk) (b : Nat) : Bool := decide (0 ≤ firstN kWorn goodS l b)
theorem rbounds_spec (l : List Blk) (hl : l.length ≤ 1000000) : PCall Try.prog 32 [.slc (l.map rowB)] (.tup [.int .i64 (lowN l l.length), .int .i64 (highN l l.length), .bool (someN l l.length)]) := by
  refine pcall_go Try.func32 comp_ref08_bounds ?_
  simp (config := {maxSteps := 4000000}) only [U_ref08_bounds, reduceIte, reduceCtorEq, Nat.reduceEqDiff, Nat.reduceAdd, Int.reduceLT, Int.reduceLE, Int.reduceNeg, Int.reduceEq, Nat.reduceLT, Nat.reduceSub, Nat.reduceMul, Nat.reduceBEq, Nat.reduceLeDiff, Int.reduceBEq, Int.reduceBNe, Int.reduceToNat, ne_eq, implies_true, bA]
  refine loopF (fun i : Nat => ⟨ofL [(0, .slc (l.map rowB)), (5, .int .i64 (lowN l i)), (6, .int .i64 (highN l i)), (7, .bool (someN l i)), (8, .int .i64 i)], []⟩) (fun i => i ≤ l.length) (fun i => l.length - i) 0 ?_ (Nat.zero_le _) ?_
  · simp (config := {maxSteps := 4000000}) only [U_ref08_bounds, reduceIte, reduceCtorEq, Nat.reduceEqDiff, Nat.reduceAdd, Int.reduceLT, Int.reduceLE, Int.reduceNeg, Int.reduceEq, Nat.reduceLT, Nat.reduceSub, Nat.reduceMul, Nat.reduceBEq, Nat.reduceLeDiff, Int.reduceBEq, Int.reduceBNe, Int.reduceToNat, ne_eq, implies_true, bA]
    all_goals rfl
  · intro i hi
    by_cases h : i < l.length
    · have d : decide ((i : Int) < (l.length : Int)) = true := by simpa using h
      have e1 : IntKind.i64.wrap ((i : Int) + 1) = ((i + 1 : Nat) : Int) := by rw [wrapI (by omega) (by omega)]; omega
      have hb := bl_at h
      have hlt1 := firstN_lt kWorn goodS l i
      have hlt2 := firstN_lt kMost goodS l i
      have w1 : firstN kWorn goodS l (i + 1) = if goodS (bl l i) = true ∧ (firstN kWorn goodS l i < 0 ∨ ltK (kWorn (bl l i)) (kWorn (bl l (firstN kWorn goodS l i).toNat))) then (i : Int) else firstN kWorn goodS l i := rfl
      have w2 : firstN kMost goodS l (i + 1) = if goodS (bl l i) = true ∧ (firstN kMost goodS l i < 0 ∨ ltK (kMost (bl l i)) (kMost (bl l (firstN kMost goodS l i).toNat))) then (i : Int) else firstN kMost goodS l i := rfl
      simp only [hb] at w1 w2
      by_cases hg : goodS l[i] = true
      · have hg' : 0 ≤ l[i].st ∧ l[i].st ≤ 2 := by simpa [goodS] using hg
        have d1 : decide (l[i].st < 0) = false := by simp; omega
        have d2 : decide (2 < l[i].st) = false := by simp; omega
        have hs1 : someN l (i + 1) = true := by
          simp only [someN, w1, decide_eq_true_eq]
          split
          · omega
          · rename_i hq
            have : ¬ firstN kWorn goodS l i < 0 := fun h => hq ⟨hg, .inl h⟩
            omega
        by_cases hn : firstN kWorn goodS l i < 0
        · have hn2 : firstN kMost goodS l i < 0 := firstN_neg _ hn
          rw [if_pos ⟨hg, .inl hn⟩] at w1
          rw [if_pos ⟨hg, .inl hn2⟩] at w2
          have d3 : someN l i = false := by simp [someN]; omega
          have l1 : lowN l (i + 1) = wornS l[i] := by rw [lowN, w1, if_neg (by omega), Int.toNat_natCast, hb]
          have l2 : highN l (i + 1) = wornS l[i] := by rw [highN, w2, if_neg (by omega), Int.toNat_natCast, hb]
          simp (config := {maxSteps := 4000000}) only [U_ref08_bounds, d, islV_map (g := rowB) h (rowB_len _), rowB, d1, d2, reduceIte, reduceCtorEq, Nat.reduceEqDiff, Nat.reduceAdd, Int.reduceLT, Int.reduceLE, Int.reduceNeg, Int.reduceEq, Nat.reduceLT, Nat.reduceSub, Nat.reduceMul, Nat.reduceBEq, Nat.reduceLeDiff, Int.reduceBEq, Int.reduceBNe, Int.reduceToNat, ne_eq, implies_true, bA]
          refine callI (rwornB l[i]) ?_
          simp (config := {maxSteps := 4000000}) only [U_ref08_bounds, d, islV_map (g := rowB) h (rowB_len _), rowB, d1, d2, d3, e1, reduceIte, reduceCtorEq, Nat.reduceEqDiff, Nat.reduceAdd, Int.reduceLT, Int.reduceLE, Int.reduceNeg, Int.reduceEq, Nat.reduceLT, Nat.reduceSub, Nat.reduceMul, Nat.reduceBEq, Nat.reduceLeDiff, Int.reduceBEq, Int.reduceBNe, Int.reduceToNat, ne_eq, implies_true, bA]
          exact ⟨i + 1, by rw [hs1, l1, l2], h, by omega⟩
        · have hn2 : ¬ firstN kMost goodS l i < 0 := fun h => hn (firstN_neg _ h)
          have d3 : someN l i = true := by simp [someN]; omega
          have m1 : lowN l i = wornS (bl l (firstN kWorn goodS l i).toNat) := by rw [lowN, if_neg hn]
          have m2 : highN l i = wornS (bl l (firstN kMost goodS l i).toNat) := by rw [highN, if_neg hn2]
          simp only [kWorn_lt, ← m1] at w1
          simp only [kMost_lt, ← m2] at w2
          have l1 : lowN l (i + 1) = if wornS l[i] < lowN l i then wornS l[i] else lowN l i := by
            by_cases hq : wornS l[i] < lowN l i
            · rw [if_pos ⟨hg, .inr hq⟩] at w1
              rw [if_pos hq, lowN, w1, if_neg (by omega), Int.toNat_natCast, hb]
            · rw [if_neg (fun hh => hh.2.elim hn hq)] at w1
              rw [if_neg hq, lowN, w1, if_neg hn, m1]
          have l2 : highN l (i + 1) = if highN l i < wornS l[i] then wornS l[i] else highN l i := by
            by_cases hq : highN l i < wornS l[i]
            · rw [if_pos ⟨hg, .inr hq⟩] at w2
              rw [if_pos hq, highN, w2, if_neg (by omega), Int.toNat_natCast, hb]
            · rw [if_neg (fun hh => hh.2.elim hn2 hq)] at w2
              rw [if_neg hq, highN, w2, if_neg hn2, m2]
          simp (config := {maxSteps := 4000000}) only [U_ref08_bounds, d, islV_map (g := rowB) h (rowB_len _), rowB, d1, d2, reduceIte, reduceCtorEq, Nat.reduceEqDiff, Nat.reduceAdd, Int.reduceLT, Int.reduceLE, Int.reduceNeg, Int.reduceEq, Nat.reduceLT, Nat.reduceSub, Nat.reduceMul, Nat.reduceBEq, Nat.reduceLeDiff, Int.reduceBEq, Int.reduceBNe, Int.reduceToNat, ne_eq, implies_true, bA]
          refine callI (rwornB l[i]) ?_
          by_cases q1 : wornS l[i] < lowN l i
          · have f1 : decide (wornS l[i] < lowN l i) = true := by simpa using q1
            rw [if_pos q1] at l1
            by_cases q2 : highN l i < wornS l[i]
            · have f2 : decide (highN l i < wornS l[i]) = true := by simpa using q2
              rw [if_pos q2] at l2
              simp (config := {maxSteps := 4000000}) only [U_ref08_bounds, d3, f1, f2, e1, reduceIte, reduceCtorEq, Nat.reduceEqDiff, Nat.reduceAdd, Int.reduceLT, Int.reduceLE, Int.reduceNeg, Int.reduceEq, Nat.reduceLT, Nat.reduceSub, Nat.reduceMul, Nat.reduceBEq, Nat.reduceLeDiff, Int.reduceBEq, Int.reduceBNe, Int.reduceToNat, ne_eq, implies_true, bA]
              exact ⟨i + 1, by rw [hs1, l1, l2], h, by omega⟩
            · have f2 : decide (highN l i < wornS l[i]) = false := by simpa using q2
              rw [if_neg q2] at l2
              simp (config := {maxSteps := 4000000}) only [U_ref08_bounds, d3, f1, f2, e1, reduceIte, reduceCtorEq, Nat.reduceEqDiff, Nat.reduceAdd, Int.reduceLT, Int.reduceLE, Int.reduceNeg, Int.reduceEq, Nat.reduceLT, Nat.reduceSub, Nat.reduceMul, Nat.reduceBEq, Nat.reduceLeDiff, Int.reduceBEq, Int.reduceBNe, Int.reduceToNat, ne_eq, implies_true, bA]
              exact ⟨i + 1, by rw [hs1, l1, l2], h, by omega⟩
          · have f1 : decide (wornS l[i] < lowN l i) = false := by simpa using q1
            rw [if_neg q1] at l1
            by_cases q2 : highN l i < wornS l[i]
            · have f2 : decide (highN l i < wornS l[i]) = true := by simpa using q2
              rw [if_pos q2] at l2
              simp (config := {maxSteps := 4000000}) only [U_ref08_bounds, d3, f1, f2, e1, reduceIte, reduceCtorEq, Nat.reduceEqDiff, Nat.reduceAdd, Int.reduceLT, Int.reduceLE, Int.reduceNeg, Int.reduceEq, Nat.reduceLT, Nat.reduceSub, Nat.reduceMul, Nat.reduceBEq, Nat.reduceLeDiff, Int.reduceBEq, Int.reduceBNe, Int.reduceToNat, ne_eq, implies_true, bA]
              exact ⟨i + 1, by rw [hs1, l1, l2], h, by omega⟩
            · have f2 : decide (highN l i < wornS l[i]) = false := by simpa using q2
              rw [if_neg q2] at l2
              simp (config := {maxSteps := 4000000}) only [U_ref08_bounds, d3, f1, f2, e1, reduceIte, reduceCtorEq, Nat.reduceEqDiff, Nat.reduceAdd, Int.reduceLT, Int.reduceLE, Int.reduceNeg, Int.reduceEq, Nat.reduceLT, Nat.reduceSub, Nat.reduceMul, Nat.reduceBEq, Nat.reduceLeDiff, Int.reduceBEq, Int.reduceBNe, Int.reduceToNat, ne_eq, implies_true, bA]
              exact ⟨i + 1, by rw [hs1, l1, l2], h, by omega⟩
      · have hg0 : goodS l[i] = false := by simpa using hg
        rw [if_neg (fun hh => hg hh.1)] at w1 w2
        have l1 : lowN l (i + 1) = lowN l i := by rw [lowN, w1, lowN]
        have l2 : highN l (i + 1) = highN l i := by rw [highN, w2, highN]
        have l3 : someN l (i + 1) = someN l i := by rw [someN, w1, someN]
        by_cases q1 : l[i].st < 0
        · have d1 : decide (l[i].st < 0) = true := by simpa using q1
          simp (config := {maxSteps := 4000000}) only [U_ref08_bounds, d, islV_map (g := rowB) h (rowB_len _), rowB, d1, e1, reduceIte, reduceCtorEq, Nat.reduceEqDiff, Nat.reduceAdd, Int.reduceLT, Int.reduceLE, Int.reduceNeg, Int.reduceEq, Nat.reduceLT, Nat.reduceSub, Nat.reduceMul, Nat.reduceBEq, Nat.reduceLeDiff, Int.reduceBEq, Int.reduceBNe, Int.reduceToNat, ne_eq, implies_true, bA]
          exact ⟨i + 1, by rw [l3, l1, l2], h, by omega⟩
        · have d1 : decide (l[i].st < 0) = false := by simpa using q1
          have d2 : decide (2 < l[i].st) = true := by simp [goodS] at hg0 ⊢; omega
          simp (config := {maxSteps := 4000000}) only [U_ref08_bounds, d, islV_map (g := rowB) h (rowB_len _), rowB, d1, d2, e1, reduceIte, reduceCtorEq, Nat.reduceEqDiff, Nat.reduceAdd, Int.reduceLT, Int.reduceLE, Int.reduceNeg, Int.reduceEq, Nat.reduceLT, Nat.reduceSub, Nat.reduceMul, Nat.reduceBEq, Nat.reduceLeDiff, Int.reduceBEq, Int.reduceBNe, Int.reduceToNat, ne_eq, implies_true, bA]
          exact ⟨i + 1, by rw [l3, l1, l2], h, by omega⟩
    · have d : decide ((i : Int) < (l.length : Int)) = false := by simpa using h
      have : i = l.length := by omega
      subst this
      simp (config := {maxSteps := 4000000}) only [U_ref08_bounds, d, reduceIte, reduceCtorEq, Nat.reduceEqDiff, Nat.reduceAdd, Int.reduceLT, Int.reduceLE, Int.reduceNeg, Int.reduceEq, Nat.reduceLT, Nat.reduceSub, Nat.reduceMul, Nat.reduceBEq, Nat.reduceLeDiff, Int.reduceBEq, Int.reduceBNe, Int.reduceToNat, ne_eq, implies_true, bA]
theorem low_high (l : List Blk) (hw : wornOk l) : (0 ≤ lowN l l.length ∧ lowN l l.length ≤ 9223372036854775807) ∧ (0 ≤ highN l l.length ∧ highN l l.length ≤ 9223372036854775807) := by
  have h1 := firstN_lt kWorn goodS l l.length
  have h2 := firstN_lt kMost goodS l l.length
  constructor
  · rw [lowN]; split
    · omega
    · exact ⟨wornS_nn _, worn_le hw (by omega)⟩
  · rw [highN]; split
    · omega
    · exact ⟨wornS_nn _, worn_le hw (by omega)⟩
theorem rgap_spec (l : List Blk) (hl : l.length ≤ 1000000) (hw : wornOk l) : PCall Try.prog 18 [.slc (l.map rowB)] (.int .i64 (gapS l)) := by
  refine pcall_go Try.func18 comp_ref08_Gap ?_
  simp (config := {maxSteps := 4000000}) only [U_ref08_Gap, reduceIte, reduceCtorEq, Nat.reduceEqDiff, Nat.reduceAdd, Int.reduceLT, Int.reduceLE, Int.reduceNeg, Int.reduceEq, Nat.reduceLT, Nat.reduceSub, Nat.reduceMul, Nat.reduceBEq, Nat.reduceLeDiff, Int.reduceBEq, Int.reduceBNe, Int.reduceToNat, ne_eq, implies_true, bA]
  refine callI (rbounds_spec l hl) ?_
  have := low_high l hw
  simp (config := {maxSteps := 4000000}) only [U_ref08_Gap, wrapI (n := highN l l.length - lowN l l.length) (by omega) (by omega), reduceIte, reduceCtorEq, Nat.reduceEqDiff, Nat.reduceAdd, Int.reduceLT, Int.reduceLE, Int.reduceNeg, Int.reduceEq, Nat.reduceLT, Nat.reduceSub, Nat.reduceMul, Nat.reduceBEq, Nat.reduceLeDiff, Int.reduceBEq, Int.reduceBNe, Int.reduceToNat, ne_eq, implies_true, bA]
  all_goals rfl
theorem rcold_spec (l : List Blk) (gap : Int) (hl : l.length ≤ 1000000) (hw : wornOk l) : PCall Try.prog 19 [.slc (l.map rowB), .int .i64 gap] (.int .i64 (coldS l gap)) := by
  refine pcall_go Try.func19 comp_ref08_Cold ?_
  simp (config := {maxSteps := 4000000}) only [U_ref08_Cold, reduceIte, reduceCtorEq, Nat.reduceEqDiff, Nat.reduceAdd, Int.reduceLT, Int.reduceLE, Int.reduceNeg, Int.reduceEq, Nat.reduceLT, Nat.reduceSub, Nat.reduceMul, Nat.reduceBEq, Nat.reduceLeDiff, Int.reduceBEq, Int.reduceBNe, Int.reduceToNat, ne_eq, implies_true, bA]
  refine callI (rbounds_spec l hl) ?_
  have hh := low_high l hw
  simp (config := {maxSteps := 4000000}) only [U_ref08_Cold, reduceIte, reduceCtorEq, Nat.reduceEqDiff, Nat.reduceAdd, Int.reduceLT, Int.reduceLE, Int.reduceNeg, Int.reduceEq, Nat.reduceLT, Nat.reduceSub, Nat.reduceMul, Nat.reduceBEq, Nat.reduceLeDiff, Int.reduceBEq, Int.reduceBNe, Int.reduceToNat, ne_eq, implies_true, bA]
  refine loopF (fun i : Nat => ⟨ofL [(0, .slc (l.map rowB)), (1, .int .i64 gap), (6, .int .i64 (highN l l.length)), (8, .int .i64 (firstN kWorn (isS 2) l i)), (9, .int .i64 i)], []⟩) (fun i => i ≤ l.length) (fun i => l.length - i) 0 ?_ (Nat.zero_le _) ?_
  · simp (config := {maxSteps := 4000000}) only [U_ref08_Cold, reduceIte, reduceCtorEq, Nat.reduceEqDiff, Nat.reduceAdd, Int.reduceLT, Int.reduceLE, Int.reduceNeg, Int.reduceEq, Nat.reduceLT, Nat.reduceSub, Nat.reduceMul, Nat.reduceBEq, Nat.reduceLeDiff, Int.reduceBEq, Int.reduceBNe, Int.reduceToNat, ne_eq, implies_true, bA]
    all_goals rfl
  · intro i hi
    have hlt := firstN_lt kWorn (isS 2) l i
    by_cases h : i < l.length
    · have d : decide ((i : Int) < (l.length : Int)) = true := by simpa using h
      have e1 : IntKind.i64.wrap ((i : Int) + 1) = ((i + 1 : Nat) : Int) := by rw [wrapI (by omega) (by omega)]; omega
      have hb := bl_at h
      have w1 : firstN kWorn (isS 2) l (i + 1) = if isS 2 (bl l i) = true ∧ (firstN kWorn (isS 2) l i < 0 ∨ ltK (kWorn (bl l i)) (kWorn (bl l (firstN kWorn (isS 2) l i).toNat))) then (i : Int) else firstN kWorn (isS 2) l i := rfl
      by_cases h2 : l[i].st = 2
      · have d2 : (l[i].st == 2) = true := by simpa using h2
        have hc : isS 2 l[i] = true := by simpa [isS] using h2
        by_cases h3 : firstN kWorn (isS 2) l i < 0
        · have d3 : decide (firstN kWorn (isS 2) l i < 0) = true := by simpa using h3
          rw [hb, if_pos ⟨hc, .inl h3⟩] at w1
          simp (config := {maxSteps := 4000000}) only [U_ref08_Cold, d, islV_map (g := rowB) h (rowB_len _), rowB, d2, d3, e1, reduceIte, reduceCtorEq, Nat.reduceEqDiff, Nat.reduceAdd, Int.reduceLT, Int.reduceLE, Int.reduceNeg, Int.reduceEq, Nat.reduceLT, Nat.reduceSub, Nat.reduceMul, Nat.reduceBEq, Nat.reduceLeDiff, Int.reduceBEq, Int.reduceBNe, Int.reduceToNat, ne_eq, implies_true, bA]
          exact ⟨i + 1, by rw [w1], h, by omega⟩
        · have d3 : decide (firstN kWorn (isS 2) l i < 0) = false := by simpa using h3
          obtain ⟨k, hk⟩ : ∃ k : Nat, firstN kWorn (isS 2) l i = k := ⟨(firstN kWorn (isS 2) l i).toNat, by omega⟩
          rw [hk] at d3 hlt w1 ⊢
          have hkl : k < l.length := by omega
          have hbk := bl_at hkl
          simp only [Int.toNat_natCast, hb, hbk, kWorn_lt] at w1
          simp (config := {maxSteps := 4000000}) only [U_ref08_Cold, d, islV_map (g := rowB) h (rowB_len _), islV_map (g := rowB) hkl (rowB_len _), rowB, d2, d3, e1, reduceIte, reduceCtorEq, Nat.reduceEqDiff, Nat.reduceAdd, Int.reduceLT, Int.reduceLE, Int.reduceNeg, Int.reduceEq, Nat.reduceLT, Nat.reduceSub, Nat.reduceMul, Nat.reduceBEq, Nat.reduceLeDiff, Int.reduceBEq, Int.reduceBNe, Int.reduceToNat, ne_eq, implies_true, bA]
          refine callI (rwornB l[i]) ?_
          simp (config := {maxSteps := 4000000}) only [U_ref08_Cold, d, islV_map (g := rowB) h (rowB_len _), islV_map (g := rowB) hkl (rowB_len _), rowB, d2, d3, e1, reduceIte, reduceCtorEq, Nat.reduceEqDiff, Nat.reduceAdd, Int.reduceLT, Int.reduceLE, Int.reduceNeg, Int.reduceEq, Nat.reduceLT, Nat.reduceSub, Nat.reduceMul, Nat.reduceBEq, Nat.reduceLeDiff, Int.reduceBEq, Int.reduceBNe, Int.reduceToNat, ne_eq, implies_true, bA]
          refine callI (rwornB l[k]) ?_
          by_cases h6 : wornS l[i] < wornS l[k]
          · have d6 : decide (wornS l[i] < wornS l[k]) = true := by simpa using h6
            rw [if_pos ⟨hc, .inr h6⟩] at w1
            simp (config := {maxSteps := 4000000}) only [U_ref08_Cold, d6, e1, reduceIte, reduceCtorEq, Nat.reduceEqDiff, Nat.reduceAdd, Int.reduceLT, Int.reduceLE, Int.reduceNeg, Int.reduceEq, Nat.reduceLT, Nat.reduceSub, Nat.reduceMul, Nat.reduceBEq, Nat.reduceLeDiff, Int.reduceBEq, Int.reduceBNe, Int.reduceToNat, ne_eq, implies_true, bA]
            exact ⟨i + 1, by rw [w1], h, by omega⟩
          · have d6 : decide (wornS l[i] < wornS l[k]) = false := by simpa using h6
            rw [if_neg (fun hh => hh.2.elim (fun h => by omega) h6)] at w1
            simp (config := {maxSteps := 4000000}) only [U_ref08_Cold, d6, e1, reduceIte, reduceCtorEq, Nat.reduceEqDiff, Nat.reduceAdd, Int.reduceLT, Int.reduceLE, Int.reduceNeg, Int.reduceEq, Nat.reduceLT, Nat.reduceSub, Nat.reduceMul, Nat.reduceBEq, Nat.reduceLeDiff, Int.reduceBEq, Int.reduceBNe, Int.reduceToNat, ne_eq, implies_true, bA]
            exact ⟨i + 1, by rw [w1], h, by omega⟩
      · have d2 : (l[i].st == 2) = false := by simpa using h2
        rw [hb, if_neg (fun hh => h2 (by simpa [isS] using hh.1))] at w1
        simp (config := {maxSteps := 4000000}) only [U_ref08_Cold, d, islV_map (g := rowB) h (rowB_len _), rowB, d2, e1, reduceIte, reduceCtorEq, Nat.reduceEqDiff, Nat.reduceAdd, Int.reduceLT, Int.reduceLE, Int.reduceNeg, Int.reduceEq, Nat.reduceLT, Nat.reduceSub, Nat.reduceMul, Nat.reduceBEq, Nat.reduceLeDiff, Int.reduceBEq, Int.reduceBNe, Int.reduceToNat, ne_eq, implies_true, bA]
        exact ⟨i + 1, by rw [w1], h, by omega⟩
    · have d : decide ((i : Int) < (l.length : Int)) = false := by simpa using h
      have : i = l.length := by omega
      subst this
      by_cases h3 : firstN kWorn (isS 2) l l.length < 0
      · have d3 : decide (0 ≤ firstN kWorn (isS 2) l l.length) = false := by simp; omega
        have hr : coldS l gap = firstN kWorn (isS 2) l l.length := by
          rw [coldS, if_pos (.inl h3)]; omega
        simp (config := {maxSteps := 4000000}) only [U_ref08_Cold, d, d3, hr, reduceIte, reduceCtorEq, Nat.reduceEqDiff, Nat.reduceAdd, Int.reduceLT, Int.reduceLE, Int.reduceNeg, Int.reduceEq, Nat.reduceLT, Nat.reduceSub, Nat.reduceMul, Nat.reduceBEq, Nat.reduceLeDiff, Int.reduceBEq, Int.reduceBNe, Int.reduceToNat, ne_eq, implies_true, bA]
      · have d3 : decide (0 ≤ firstN kWorn (isS 2) l l.length) = true := by simp; omega
        have hr : coldS l gap = if highN l l.length - wornS (bl l (firstN kWorn (isS 2) l l.length).toNat) ≤ (if gap < 0 then 0 else gap) then -1 else firstN kWorn (isS 2) l l.length := by
          rw [coldS, fullN]
          by_cases q : highN l l.length - wornS (bl l (firstN kWorn (isS 2) l l.length).toNat) ≤ (if gap < 0 then 0 else gap)
          · rw [if_pos (.inr q), if_pos q]
          · rw [if_neg (fun h => h.elim h3 q), if_neg q]
        obtain ⟨k, hk⟩ : ∃ k : Nat, firstN kWorn (isS 2) l l.length = k := ⟨(firstN kWorn (isS 2) l l.length).toNat, by omega⟩
        rw [hk] at d3 hlt hr ⊢
        have hkl : k < l.length := by omega
        have hbk := bl_at hkl
        have b2 := worn_le hw hkl
        have b3 := wornS_nn (bl l k)
        simp only [Int.toNat_natCast, hbk] at hr
        rw [hbk] at b2 b3
        simp (config := {maxSteps := 4000000}) only [U_ref08_Cold, d, d3, islV_map (g := rowB) hkl (rowB_len _), rowB, reduceIte, reduceCtorEq, Nat.reduceEqDiff, Nat.reduceAdd, Int.reduceLT, Int.reduceLE, Int.reduceNeg, Int.reduceEq, Nat.reduceLT, Nat.reduceSub, Nat.reduceMul, Nat.reduceBEq, Nat.reduceLeDiff, Int.reduceBEq, Int.reduceBNe, Int.reduceToNat, ne_eq, implies_true, bA]
        refine callI (rwornB l[k]) ?_
        simp (config := {maxSteps := 4000000}) only [U_ref08_Cold, d, d3, islV_map (g := rowB) hkl (rowB_len _), rowB, reduceIte, reduceCtorEq, Nat.reduceEqDiff, Nat.reduceAdd, Int.reduceLT, Int.reduceLE, Int.reduceNeg, Int.reduceEq, Nat.reduceLT, Nat.reduceSub, Nat.reduceMul, Nat.reduceBEq, Nat.reduceLeDiff, Int.reduceBEq, Int.reduceBNe, Int.reduceToNat, ne_eq, implies_true, bA]
        refine callI (rworn_spec gap) ?_
        by_cases q : highN l l.length - wornS l[k] ≤ (if gap < 0 then 0 else gap)
        · have d4 : decide (highN l l.length - wornS l[k] ≤ (if gap < 0 then 0 else gap)) = true := by simpa using q
          rw [if_pos q] at hr
          simp (config := {maxSteps := 4000000}) only [U_ref08_Cold, wrapI (n := highN l l.length - wornS l[k]) (by omega) (by omega), d4, hr, reduceIte, reduceCtorEq, Nat.reduceEqDiff, Nat.reduceAdd, Int.reduceLT, Int.reduceLE, Int.reduceNeg, Int.reduceEq, Nat.reduceLT, Nat.reduceSub, Nat.reduceMul, Nat.reduceBEq, Nat.reduceLeDiff, Int.reduceBEq, Int.reduceBNe, Int.reduceToNat, ne_eq, implies_true, bA]
        · have d4 : decide (highN l l.length - wornS l[k] ≤ (if gap < 0 then 0 else gap)) = false := by simpa using q
          rw [if_neg q] at hr
          simp (config := {maxSteps := 4000000}) only [U_ref08_Cold, wrapI (n := highN l l.length - wornS l[k]) (by omega) (by omega), d4, hr, reduceIte, reduceCtorEq, Nat.reduceEqDiff, Nat.reduceAdd, Int.reduceLT, Int.reduceLE, Int.reduceNeg, Int.reduceEq, Nat.reduceLT, Nat.reduceSub, Nat.reduceMul, Nat.reduceBEq, Nat.reduceLeDiff, Int.reduceBEq, Int.reduceBNe, Int.reduceToNat, ne_eq, implies_true, bA]
end Go.Proofs.Ytfdehjkpglkheaa.Aw
