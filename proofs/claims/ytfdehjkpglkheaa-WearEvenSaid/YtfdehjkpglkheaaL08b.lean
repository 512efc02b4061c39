/-
  WearLess, as a contract: it returns true.
-/
import Derived.Test.YtfdehjkpglkheaaL08
set_option linter.unusedSimpArgs false
set_option linter.unusedVariables false
namespace Go.Proofs.Ytfdehjkpglkheaa.Aw
open Go.RowKit

/-- Is one of the first so many a bad one that has something? -/
def badT (l : List Blk) : Nat → Bool
  | 0 => false
  | b + 1 => badT l b || badS (bl l b)
theorem badT_false {l : List Blk} : ∀ b, badT l b = false ↔ ∀ j, j < b → badS (bl l j) = false
  | 0 => by simp [badT]
  | b + 1 => by
    simp only [badT, Bool.or_eq_false_iff, badT_false b]
    constructor
    · intro ⟨h1, h2⟩ j hj
      by_cases e : j = b
      · subst e; exact h2
      · exact h1 j (by omega)
    · intro h
      exact ⟨fun j hj => h j (by omega), h b (by omega)⟩
theorem badN_neg {l : List Blk} : badN l < 0 ↔ badT l l.length = false := by
  rw [badT_false]
  rcases firstN_first kZero badS l l.length with ⟨h1, h2⟩ | ⟨k, h1, h2, h3, h4, _⟩
  · rw [badN, h1]; exact ⟨fun _ j hj => h2 j (Nat.zero_le _) hj, fun _ => by omega⟩
  · rw [badN, h1]
    constructor
    · intro h; omega
    · intro h; rw [h k h3] at h4; cases h4
/-- What is known of a victim. -/
theorem victim_what (l : List Blk) : -1 ≤ victimS l ∧ victimS l < l.length ∧
    (badT l l.length = true → 0 ≤ victimS l ∧ badS (bl l (victimS l).toNat) = true) ∧
    (badT l l.length = false → First kVic (isS 2) l 0 l.length (victimS l)) := by
  have h1 := firstN_lt kZero badS l l.length
  have h2 := firstN_lt kVic (isS 2) l l.length
  by_cases h : badN l < 0
  · have hv : victimS l = firstN kVic (isS 2) l l.length := by rw [victimS, if_neg (by omega)]
    rw [hv]
    exact ⟨h2.1, h2.2, (fun hb => by rw [badN_neg.1 h] at hb; cases hb), fun _ => firstN_first _ _ _ _⟩
  · have hv : victimS l = badN l := by rw [victimS, if_pos (by omega)]
    rw [hv]
    refine ⟨h1.1, h1.2, fun _ => ⟨by omega, firstN_at (K := kZero) (c := badS) (by rw [badN] at h; omega)⟩, fun hb => absurd (badN_neg.2 hb) h⟩
theorem victim_full (l : List Blk) {j : Nat} (hj : j < l.length) (h2 : (bl l j).st = 2) : 0 ≤ victimS l ∧ ¬ ((bl l (victimS l).toNat).st = 2 ∧ (bl l j).va < (bl l (victimS l).toNat).va) := by
  obtain ⟨_, _, h3, h4⟩ := victim_what l
  cases hb : badT l l.length with
  | true =>
    have := h3 hb
    refine ⟨this.1, fun h => ?_⟩
    have h5 := this.2
    simp [badS, h.1] at h5
  | false =>
    rcases h4 hb with ⟨h5, h6⟩ | ⟨k, h5, _, h6, h7, h8⟩
    · have := h6 j (Nat.zero_le _) hj
      simp [isS, h2] at this
    · rw [h5]
      refine ⟨by omega, fun h => ?_⟩
      rw [Int.toNat_natCast] at h
      exact (h8 j (Nat.zero_le _) hj (by simp [isS, h2])).2 (.inl h.2)
theorem pick_free (l : List Blk) {j : Nat} (hj : j < l.length) (h2 : (bl l j).st = 0) : 0 ≤ pickS l ∧ ¬ wornS (bl l j) < wornS (bl l (pickS l).toNat) := by
  rcases firstN_first kWorn (isS 0) l l.length with ⟨h5, h6⟩ | ⟨k, h5, _, h6, h7, h8⟩
  · have := h6 j (Nat.zero_le _) hj
    simp [isS, h2] at this
  · rw [pickS, h5]
    refine ⟨by omega, fun h => ?_⟩
    rw [Int.toNat_natCast] at h
    exact (h8 j (Nat.zero_le _) hj (by simp [isS, h2])).2 (kWorn_lt.2 h)
theorem cold_what (l : List Blk) (gap : Int) : coldS l gap = -1 ∨ (0 ≤ coldS l gap ∧ coldS l gap = fullN l) := by
  rw [coldS]
  by_cases h : fullN l < 0 ∨ highN l l.length - wornS (bl l (fullN l).toNat) ≤ (if gap < 0 then 0 else gap)
  · rw [if_pos h]; exact .inl rfl
  · rw [if_neg h]
    have h1 : ¬ fullN l < 0 := fun h' => h (.inl h')
    exact .inr ⟨by omega, rfl⟩
theorem cold_full (l : List Blk) (gap : Int) {j : Nat} (hj : j < l.length) (h2 : (bl l j).st = 2) (h0 : 0 ≤ coldS l gap) : ¬ wornS (bl l j) < wornS (bl l (coldS l gap).toNat) := by
  rcases cold_what l gap with h | ⟨_, h⟩
  · omega
  · rw [h]
    rcases firstN_first kWorn (isS 2) l l.length with ⟨h5, h6⟩ | ⟨k, h5, _, h6, h7, h8⟩
    · have := h6 j (Nat.zero_le _) hj
      simp [isS, h2] at this
    · rw [fullN, h5]
      intro h
      rw [Int.toNat_natCast] at h
      exact (h8 j (Nat.zero_le _) hj (by simp [isS, h2])).2 (kWorn_lt.2 h)
theorem maxWo (b : Blk) : max b.wo 0 = wornS b := by simp only [wornS, Int.max_def]; split <;> split <;> omega

set_option maxHeartbeats 4000000 in
theorem less_law (l : List Blk) (gap : Int) (hm : l.length ≤ 9223372036854775807) (hw : wornOk l) : PCall Try.prog 6 [.slc (l.map rowB), .int .i64 gap] (.bool true) := by
  refine pcall_go Try.func6 comp_law08_WearLess ?_
  by_cases h : l.length ≤ 300
  · have d : decide ((300 : Int) < (l.length : Int)) = false := by simp; omega
    have hl : l.length ≤ 1000000 := by omega
    simp (config := {maxSteps := 4000000}) only [U_law08_WearLess, d, reduceIte, reduceCtorEq, Nat.reduceEqDiff, Nat.reduceAdd, Int.reduceLT, Int.reduceLE, Int.reduceNeg, Int.reduceEq, Nat.reduceLT, Nat.reduceSub, Nat.reduceMul, Nat.reduceBEq, Nat.reduceLeDiff, Int.reduceBEq, Int.reduceBNe, Int.reduceToNat, ne_eq, implies_true, bA]
    refine callI (pick_spec l hl) ?_
    simp (config := {maxSteps := 4000000}) only [U_law08_WearLess, reduceIte, reduceCtorEq, Nat.reduceEqDiff, Nat.reduceAdd, Int.reduceLT, Int.reduceLE, Int.reduceNeg, Int.reduceEq, Nat.reduceLT, Nat.reduceSub, Nat.reduceMul, Nat.reduceBEq, Nat.reduceLeDiff, Int.reduceBEq, Int.reduceBNe, Int.reduceToNat, ne_eq, implies_true, bA]
    refine callI (victim_spec l hl) ?_
    simp (config := {maxSteps := 4000000}) only [U_law08_WearLess, reduceIte, reduceCtorEq, Nat.reduceEqDiff, Nat.reduceAdd, Int.reduceLT, Int.reduceLE, Int.reduceNeg, Int.reduceEq, Nat.reduceLT, Nat.reduceSub, Nat.reduceMul, Nat.reduceBEq, Nat.reduceLeDiff, Int.reduceBEq, Int.reduceBNe, Int.reduceToNat, ne_eq, implies_true, bA]
    refine callI (cold_spec l gap hl hw) ?_
    have hp := firstN_lt kWorn (isS 0) l l.length
    obtain ⟨hv1, hv2, hv3, hv4⟩ := victim_what l
    have hc : -1 ≤ coldS l gap ∧ coldS l gap < l.length := by
      have := firstN_lt kWorn (isS 2) l l.length
      rcases cold_what l gap with h | ⟨_, h⟩ <;> rw [h]
      · omega
      · exact this
    have hpd : pickS l = firstN kWorn (isS 0) l l.length := rfl
    rw [← hpd] at hp
    have g1 : decide ((l.length : Int) ≤ pickS l) = false := by simp; omega
    have g2 : decide ((l.length : Int) ≤ victimS l) = false := by simp; omega
    have g3 : decide ((l.length : Int) ≤ coldS l gap) = false := by simp; omega
    have g4 : decide (pickS l < -1) = false := by simp; omega
    have g5 : decide (victimS l < -1) = false := by simp; omega
    have g6 : decide (coldS l gap < -1) = false := by simp; omega
    simp (config := {maxSteps := 4000000}) only [U_law08_WearLess, g1, g2, g3, g4, g5, g6, reduceIte, reduceCtorEq, Nat.reduceEqDiff, Nat.reduceAdd, Int.reduceLT, Int.reduceLE, Int.reduceNeg, Int.reduceEq, Nat.reduceLT, Nat.reduceSub, Nat.reduceMul, Nat.reduceBEq, Nat.reduceLeDiff, Int.reduceBEq, Int.reduceBNe, Int.reduceToNat, ne_eq, implies_true, bA]
    refine loopF (fun i : Nat => ⟨ofL [(0, .slc (l.map rowB)), (5, .int .i64 (pickS l)), (6, .int .i64 (victimS l)), (7, .int .i64 (coldS l gap)), (8, .bool (badT l i)), (9, .int .i64 i)], []⟩) (fun i => i ≤ l.length) (fun i => l.length - i) 0 ?_ (Nat.zero_le _) ?_
    · simp (config := {maxSteps := 4000000}) only [U_law08_WearLess, reduceIte, reduceCtorEq, Nat.reduceEqDiff, Nat.reduceAdd, Int.reduceLT, Int.reduceLE, Int.reduceNeg, Int.reduceEq, Nat.reduceLT, Nat.reduceSub, Nat.reduceMul, Nat.reduceBEq, Nat.reduceLeDiff, Int.reduceBEq, Int.reduceBNe, Int.reduceToNat, ne_eq, implies_true, bA]
      all_goals rfl
    · intro i hi
      by_cases h : i < l.length
      · have d : decide ((i : Int) < (l.length : Int)) = true := by simpa using h
        have e1 : IntKind.i64.wrap ((i : Int) + 1) = ((i + 1 : Nat) : Int) := by rw [wrapI (by omega) (by omega)]; omega
        have hb := bl_at h
        have hfin : badT l (i + 1) = (badT l i || badS l[i]) := by rw [badT, hb]
        by_cases h0 : l[i].st = 0
        · have hbt : badT l (i + 1) = badT l i := by rw [hfin]; simp [badS, h0]
          obtain ⟨k0, k1⟩ := pick_free l h (by rw [hb]; exact h0)
          obtain ⟨k, hk⟩ : ∃ k : Nat, pickS l = k := ⟨(pickS l).toNat, by omega⟩
          rw [hk] at hp k0 k1 ⊢
          have hkl : k < l.length := by omega
          rw [Int.toNat_natCast, hb, bl_at hkl] at k1
          have f1 : decide ((k : Int) < 0) = false := by simp
          have f2 : decide (wornS l[i] < wornS l[k]) = false := by simpa using k1
          cases hbi : badT l i with
          | true =>
            simp (config := {maxSteps := 4000000}) only [U_law08_WearLess, d, islV_map (g := rowB) h (rowB_len _), islV_map (g := rowB) hkl (rowB_len _), rowB, h0, f1, maxWo, f2, e1, reduceIte, reduceCtorEq, Nat.reduceEqDiff, Nat.reduceAdd, Int.reduceLT, Int.reduceLE, Int.reduceNeg, Int.reduceEq, Nat.reduceLT, Nat.reduceSub, Nat.reduceMul, Nat.reduceBEq, Nat.reduceLeDiff, Int.reduceBEq, Int.reduceBNe, Int.reduceToNat, ne_eq, implies_true, bA]
            exact ⟨i + 1, by rw [hbt, hbi], h, by omega⟩
          | false =>
            simp (config := {maxSteps := 4000000}) only [U_law08_WearLess, d, islV_map (g := rowB) h (rowB_len _), islV_map (g := rowB) hkl (rowB_len _), rowB, h0, f1, maxWo, f2, e1, reduceIte, reduceCtorEq, Nat.reduceEqDiff, Nat.reduceAdd, Int.reduceLT, Int.reduceLE, Int.reduceNeg, Int.reduceEq, Nat.reduceLT, Nat.reduceSub, Nat.reduceMul, Nat.reduceBEq, Nat.reduceLeDiff, Int.reduceBEq, Int.reduceBNe, Int.reduceToNat, ne_eq, implies_true, bA]
            exact ⟨i + 1, by rw [hbt, hbi], h, by omega⟩
        · have f0 : (l[i].st == 0) = false := by simpa using h0
          by_cases h2 : l[i].st = 2
          · have hbt : badT l (i + 1) = badT l i := by rw [hfin]; simp [badS, h2]
            obtain ⟨k0, k1⟩ := victim_full l h (by rw [hb]; exact h2)
            obtain ⟨k, hk⟩ : ∃ k : Nat, victimS l = k := ⟨(victimS l).toNat, by omega⟩
            rw [hk] at hv2 k0 k1 ⊢
            have hkl : k < l.length := by omega
            rw [Int.toNat_natCast, hb, bl_at hkl] at k1
            have f1 : decide ((k : Int) < 0) = false := by simp
            have key : ∀ (bt : Bool), badT l i = bt → badT l (i + 1) = bt := fun bt h => by rw [hbt, h]
            by_cases hc0 : 0 ≤ coldS l gap
            · have k2 := cold_full l gap h (by rw [hb]; exact h2) hc0
              obtain ⟨c, hcc⟩ : ∃ c : Nat, coldS l gap = c := ⟨(coldS l gap).toNat, by omega⟩
              rw [hcc] at hc k2 ⊢
              have hcl : c < l.length := by omega
              rw [Int.toNat_natCast, hb, bl_at hcl] at k2
              have f3 : decide (0 ≤ (c : Int)) = true := by simp
              have f4 : decide (wornS l[i] < wornS l[c]) = false := by simpa using k2
              by_cases h3 : l[k].st = 2
              · have f5 : (l[k].st == 2) = true := by simpa using h3
                have f6 : decide (l[i].va < l[k].va) = false := by simpa using fun h => k1 ⟨h3, h⟩
                cases hbi : badT l i with
                | true =>
                  simp (config := {maxSteps := 4000000}) only [U_law08_WearLess, d, islV_map (g := rowB) h (rowB_len _), islV_map (g := rowB) hkl (rowB_len _), islV_map (g := rowB) hcl (rowB_len _), rowB, h2, f1, maxWo, f3, f4, f5, f6, e1, reduceIte, reduceCtorEq, Nat.reduceEqDiff, Nat.reduceAdd, Int.reduceLT, Int.reduceLE, Int.reduceNeg, Int.reduceEq, Nat.reduceLT, Nat.reduceSub, Nat.reduceMul, Nat.reduceBEq, Nat.reduceLeDiff, Int.reduceBEq, Int.reduceBNe, Int.reduceToNat, ne_eq, implies_true, bA]
                  exact ⟨i + 1, by rw [key _ hbi], h, by omega⟩
                | false =>
                  simp (config := {maxSteps := 4000000}) only [U_law08_WearLess, d, islV_map (g := rowB) h (rowB_len _), islV_map (g := rowB) hkl (rowB_len _), islV_map (g := rowB) hcl (rowB_len _), rowB, h2, f1, maxWo, f3, f4, f5, f6, e1, reduceIte, reduceCtorEq, Nat.reduceEqDiff, Nat.reduceAdd, Int.reduceLT, Int.reduceLE, Int.reduceNeg, Int.reduceEq, Nat.reduceLT, Nat.reduceSub, Nat.reduceMul, Nat.reduceBEq, Nat.reduceLeDiff, Int.reduceBEq, Int.reduceBNe, Int.reduceToNat, ne_eq, implies_true, bA]
                  exact ⟨i + 1, by rw [key _ hbi], h, by omega⟩
              · have f5 : (l[k].st == 2) = false := by simpa using h3
                cases hbi : badT l i with
                | true =>
                  simp (config := {maxSteps := 4000000}) only [U_law08_WearLess, d, islV_map (g := rowB) h (rowB_len _), islV_map (g := rowB) hkl (rowB_len _), islV_map (g := rowB) hcl (rowB_len _), rowB, h2, f1, maxWo, f3, f4, f5, e1, reduceIte, reduceCtorEq, Nat.reduceEqDiff, Nat.reduceAdd, Int.reduceLT, Int.reduceLE, Int.reduceNeg, Int.reduceEq, Nat.reduceLT, Nat.reduceSub, Nat.reduceMul, Nat.reduceBEq, Nat.reduceLeDiff, Int.reduceBEq, Int.reduceBNe, Int.reduceToNat, ne_eq, implies_true, bA]
                  exact ⟨i + 1, by rw [key _ hbi], h, by omega⟩
                | false =>
                  simp (config := {maxSteps := 4000000}) only [U_law08_WearLess, d, islV_map (g := rowB) h (rowB_len _), islV_map (g := rowB) hkl (rowB_len _), islV_map (g := rowB) hcl (rowB_len _), rowB, h2, f1, maxWo, f3, f4, f5, e1, reduceIte, reduceCtorEq, Nat.reduceEqDiff, Nat.reduceAdd, Int.reduceLT, Int.reduceLE, Int.reduceNeg, Int.reduceEq, Nat.reduceLT, Nat.reduceSub, Nat.reduceMul, Nat.reduceBEq, Nat.reduceLeDiff, Int.reduceBEq, Int.reduceBNe, Int.reduceToNat, ne_eq, implies_true, bA]
                  exact ⟨i + 1, by rw [key _ hbi], h, by omega⟩
            · have f3 : decide (0 ≤ coldS l gap) = false := by simpa using hc0
              by_cases h3 : l[k].st = 2
              · have f5 : (l[k].st == 2) = true := by simpa using h3
                have f6 : decide (l[i].va < l[k].va) = false := by simpa using fun h => k1 ⟨h3, h⟩
                cases hbi : badT l i with
                | true =>
                  simp (config := {maxSteps := 4000000}) only [U_law08_WearLess, d, islV_map (g := rowB) h (rowB_len _), islV_map (g := rowB) hkl (rowB_len _), rowB, h2, f1, maxWo, f3, f5, f6, e1, reduceIte, reduceCtorEq, Nat.reduceEqDiff, Nat.reduceAdd, Int.reduceLT, Int.reduceLE, Int.reduceNeg, Int.reduceEq, Nat.reduceLT, Nat.reduceSub, Nat.reduceMul, Nat.reduceBEq, Nat.reduceLeDiff, Int.reduceBEq, Int.reduceBNe, Int.reduceToNat, ne_eq, implies_true, bA]
                  exact ⟨i + 1, by rw [key _ hbi], h, by omega⟩
                | false =>
                  simp (config := {maxSteps := 4000000}) only [U_law08_WearLess, d, islV_map (g := rowB) h (rowB_len _), islV_map (g := rowB) hkl (rowB_len _), rowB, h2, f1, maxWo, f3, f5, f6, e1, reduceIte, reduceCtorEq, Nat.reduceEqDiff, Nat.reduceAdd, Int.reduceLT, Int.reduceLE, Int.reduceNeg, Int.reduceEq, Nat.reduceLT, Nat.reduceSub, Nat.reduceMul, Nat.reduceBEq, Nat.reduceLeDiff, Int.reduceBEq, Int.reduceBNe, Int.reduceToNat, ne_eq, implies_true, bA]
                  exact ⟨i + 1, by rw [key _ hbi], h, by omega⟩
              · have f5 : (l[k].st == 2) = false := by simpa using h3
                cases hbi : badT l i with
                | true =>
                  simp (config := {maxSteps := 4000000}) only [U_law08_WearLess, d, islV_map (g := rowB) h (rowB_len _), islV_map (g := rowB) hkl (rowB_len _), rowB, h2, f1, maxWo, f3, f5, e1, reduceIte, reduceCtorEq, Nat.reduceEqDiff, Nat.reduceAdd, Int.reduceLT, Int.reduceLE, Int.reduceNeg, Int.reduceEq, Nat.reduceLT, Nat.reduceSub, Nat.reduceMul, Nat.reduceBEq, Nat.reduceLeDiff, Int.reduceBEq, Int.reduceBNe, Int.reduceToNat, ne_eq, implies_true, bA]
                  exact ⟨i + 1, by rw [key _ hbi], h, by omega⟩
                | false =>
                  simp (config := {maxSteps := 4000000}) only [U_law08_WearLess, d, islV_map (g := rowB) h (rowB_len _), islV_map (g := rowB) hkl (rowB_len _), rowB, h2, f1, maxWo, f3, f5, e1, reduceIte, reduceCtorEq, Nat.reduceEqDiff, Nat.reduceAdd, Int.reduceLT, Int.reduceLE, Int.reduceNeg, Int.reduceEq, Nat.reduceLT, Nat.reduceSub, Nat.reduceMul, Nat.reduceBEq, Nat.reduceLeDiff, Int.reduceBEq, Int.reduceBNe, Int.reduceToNat, ne_eq, implies_true, bA]
                  exact ⟨i + 1, by rw [key _ hbi], h, by omega⟩
          · have f2 : (l[i].st == 2) = false := by simpa using h2
            cases hbi : badT l i with
            | true =>
              simp (config := {maxSteps := 4000000}) only [U_law08_WearLess, d, islV_map (g := rowB) h (rowB_len _), rowB, f0, f2, e1, reduceIte, reduceCtorEq, Nat.reduceEqDiff, Nat.reduceAdd, Int.reduceLT, Int.reduceLE, Int.reduceNeg, Int.reduceEq, Nat.reduceLT, Nat.reduceSub, Nat.reduceMul, Nat.reduceBEq, Nat.reduceLeDiff, Int.reduceBEq, Int.reduceBNe, Int.reduceToNat, ne_eq, implies_true, bA]
              exact ⟨i + 1, by rw [hfin, hbi]; rfl, h, by omega⟩
            | false =>
              by_cases h3 : l[i].st = 3
              · have f3 : (l[i].st == 3) = true := by simpa using h3
                simp (config := {maxSteps := 4000000}) only [U_law08_WearLess, d, islV_map (g := rowB) h (rowB_len _), rowB, f0, f2, f3, e1, reduceIte, reduceCtorEq, Nat.reduceEqDiff, Nat.reduceAdd, Int.reduceLT, Int.reduceLE, Int.reduceNeg, Int.reduceEq, Nat.reduceLT, Nat.reduceSub, Nat.reduceMul, Nat.reduceBEq, Nat.reduceLeDiff, Int.reduceBEq, Int.reduceBNe, Int.reduceToNat, ne_eq, implies_true, bA]
                exact ⟨i + 1, by rw [hfin, hbi]; simp [badS, h3], h, by omega⟩
              · have f3 : (l[i].st == 3) = false := by simpa using h3
                simp (config := {maxSteps := 4000000}) only [U_law08_WearLess, d, islV_map (g := rowB) h (rowB_len _), rowB, f0, f2, f3, e1, reduceIte, reduceCtorEq, Nat.reduceEqDiff, Nat.reduceAdd, Int.reduceLT, Int.reduceLE, Int.reduceNeg, Int.reduceEq, Nat.reduceLT, Nat.reduceSub, Nat.reduceMul, Nat.reduceBEq, Nat.reduceLeDiff, Int.reduceBEq, Int.reduceBNe, Int.reduceToNat, ne_eq, implies_true, bA]
                exact ⟨i + 1, by rw [hfin, hbi, badS, f3]; rfl, h, by omega⟩
      · have d : decide ((i : Int) < (l.length : Int)) = false := by simpa using h
        have : i = l.length := by omega
        subst this
        have hP : (∃ k : Nat, ∃ h : k < l.length, pickS l = k ∧ l[k].st = 0) ∨ pickS l = -1 := by
          by_cases h0 : 0 ≤ pickS l
          · have h1 := firstN_at (K := kWorn) (c := isS 0) (l := l) (b := l.length) h0
            refine .inl ⟨(pickS l).toNat, by omega, by omega, ?_⟩
            rw [← hpd, bl_at (by omega)] at h1
            simpa [isS] using h1
          · exact .inr (by omega)
        have hC : (∃ k : Nat, ∃ h : k < l.length, coldS l gap = k ∧ l[k].st = 2) ∨ coldS l gap = -1 := by
          rcases cold_what l gap with h0 | ⟨h0, h2⟩
          · exact .inr h0
          · have h1 := firstN_at (K := kWorn) (c := isS 2) (l := l) (b := l.length) (by rw [← fullN, ← h2]; exact h0)
            rw [← fullN, ← h2] at h1
            refine .inl ⟨(coldS l gap).toNat, by omega, by omega, ?_⟩
            rw [bl_at (by omega)] at h1
            simpa [isS] using h1
        have hV : (badT l l.length = true ∧ ∃ k : Nat, ∃ h : k < l.length, victimS l = k ∧ l[k].st = 3 ∧ 0 < l[k].va) ∨ (badT l l.length = false ∧ ∃ k : Nat, ∃ h : k < l.length, victimS l = k ∧ l[k].st = 2) ∨ (badT l l.length = false ∧ victimS l = -1) := by
          cases hb : badT l l.length with
          | true =>
            have h1 := hv3 hb
            refine .inl ⟨rfl, (victimS l).toNat, by omega, by omega, ?_⟩
            have h2 := h1.2
            rw [bl_at (by omega)] at h2
            simpa [badS] using h2
          | false =>
            rcases hv4 hb with ⟨h1, _⟩ | ⟨k, h1, _, h2, h3, _⟩
            · exact .inr (.inr ⟨rfl, h1⟩)
            · refine .inr (.inl ⟨rfl, k, h2, h1, ?_⟩)
              rw [bl_at h2] at h3
              simpa [isS] using h3
        rcases hP with ⟨p, hpl, hpe, hp0⟩ | hpe
        · rw [hpe]
          have fp : decide (0 ≤ (p : Int)) = true := by simp
          rcases hC with ⟨c, hcl, hce, hc0⟩ | hce
          · rw [hce]
            have fc : decide (0 ≤ (c : Int)) = true := by simp
            rcases hV with ⟨hb, v, hvl, hve, hv0, hv1⟩ | ⟨hb, v, hvl, hve, hv0⟩ | ⟨hb, hve⟩
            · rw [hve, hb]
              have fv1 : decide ((v : Int) < 0) = false := by simp
              have fv2 : decide (0 ≤ (v : Int)) = true := by simp
              have fv3 : decide (0 < l[v].va) = true := by simpa using hv1
              simp (config := {maxSteps := 4000000}) only [U_law08_WearLess, d, fp, islV_map (g := rowB) hpl (rowB_len _), rowB, hp0, fc, islV_map (g := rowB) hcl (rowB_len _), rowB, hc0, islV_map (g := rowB) hvl (rowB_len _), rowB, fv1, fv2, hv0, fv3, reduceIte, reduceCtorEq, Nat.reduceEqDiff, Nat.reduceAdd, Int.reduceLT, Int.reduceLE, Int.reduceNeg, Int.reduceEq, Nat.reduceLT, Nat.reduceSub, Nat.reduceMul, Nat.reduceBEq, Nat.reduceLeDiff, Int.reduceBEq, Int.reduceBNe, Int.reduceToNat, ne_eq, implies_true, bA]
              refine callI awake08_spec ?_
              simp (config := {maxSteps := 4000000}) only [U_law08_WearLess, d, fp, islV_map (g := rowB) hpl (rowB_len _), rowB, hp0, fc, islV_map (g := rowB) hcl (rowB_len _), rowB, hc0, islV_map (g := rowB) hvl (rowB_len _), rowB, fv1, fv2, hv0, fv3, reduceIte, reduceCtorEq, Nat.reduceEqDiff, Nat.reduceAdd, Int.reduceLT, Int.reduceLE, Int.reduceNeg, Int.reduceEq, Nat.reduceLT, Nat.reduceSub, Nat.reduceMul, Nat.reduceBEq, Nat.reduceLeDiff, Int.reduceBEq, Int.reduceBNe, Int.reduceToNat, ne_eq, implies_true, bA]
            · rw [hve, hb]
              have fv1 : decide ((v : Int) < 0) = false := by simp
              have fv2 : decide (0 ≤ (v : Int)) = true := by simp
              simp (config := {maxSteps := 4000000}) only [U_law08_WearLess, d, fp, islV_map (g := rowB) hpl (rowB_len _), rowB, hp0, fc, islV_map (g := rowB) hcl (rowB_len _), rowB, hc0, islV_map (g := rowB) hvl (rowB_len _), rowB, fv1, fv2, hv0, reduceIte, reduceCtorEq, Nat.reduceEqDiff, Nat.reduceAdd, Int.reduceLT, Int.reduceLE, Int.reduceNeg, Int.reduceEq, Nat.reduceLT, Nat.reduceSub, Nat.reduceMul, Nat.reduceBEq, Nat.reduceLeDiff, Int.reduceBEq, Int.reduceBNe, Int.reduceToNat, ne_eq, implies_true, bA]
              refine callI awake08_spec ?_
              simp (config := {maxSteps := 4000000}) only [U_law08_WearLess, d, fp, islV_map (g := rowB) hpl (rowB_len _), rowB, hp0, fc, islV_map (g := rowB) hcl (rowB_len _), rowB, hc0, islV_map (g := rowB) hvl (rowB_len _), rowB, fv1, fv2, hv0, reduceIte, reduceCtorEq, Nat.reduceEqDiff, Nat.reduceAdd, Int.reduceLT, Int.reduceLE, Int.reduceNeg, Int.reduceEq, Nat.reduceLT, Nat.reduceSub, Nat.reduceMul, Nat.reduceBEq, Nat.reduceLeDiff, Int.reduceBEq, Int.reduceBNe, Int.reduceToNat, ne_eq, implies_true, bA]
            · rw [hve, hb]
              simp (config := {maxSteps := 4000000}) only [U_law08_WearLess, d, fp, islV_map (g := rowB) hpl (rowB_len _), rowB, hp0, fc, islV_map (g := rowB) hcl (rowB_len _), rowB, hc0, reduceIte, reduceCtorEq, Nat.reduceEqDiff, Nat.reduceAdd, Int.reduceLT, Int.reduceLE, Int.reduceNeg, Int.reduceEq, Nat.reduceLT, Nat.reduceSub, Nat.reduceMul, Nat.reduceBEq, Nat.reduceLeDiff, Int.reduceBEq, Int.reduceBNe, Int.reduceToNat, ne_eq, implies_true, bA]
              refine callI awake08_spec ?_
              simp (config := {maxSteps := 4000000}) only [U_law08_WearLess, d, fp, islV_map (g := rowB) hpl (rowB_len _), rowB, hp0, fc, islV_map (g := rowB) hcl (rowB_len _), rowB, hc0, reduceIte, reduceCtorEq, Nat.reduceEqDiff, Nat.reduceAdd, Int.reduceLT, Int.reduceLE, Int.reduceNeg, Int.reduceEq, Nat.reduceLT, Nat.reduceSub, Nat.reduceMul, Nat.reduceBEq, Nat.reduceLeDiff, Int.reduceBEq, Int.reduceBNe, Int.reduceToNat, ne_eq, implies_true, bA]
          · rw [hce]
            rcases hV with ⟨hb, v, hvl, hve, hv0, hv1⟩ | ⟨hb, v, hvl, hve, hv0⟩ | ⟨hb, hve⟩
            · rw [hve, hb]
              have fv1 : decide ((v : Int) < 0) = false := by simp
              have fv2 : decide (0 ≤ (v : Int)) = true := by simp
              have fv3 : decide (0 < l[v].va) = true := by simpa using hv1
              simp (config := {maxSteps := 4000000}) only [U_law08_WearLess, d, fp, islV_map (g := rowB) hpl (rowB_len _), rowB, hp0, islV_map (g := rowB) hvl (rowB_len _), rowB, fv1, fv2, hv0, fv3, reduceIte, reduceCtorEq, Nat.reduceEqDiff, Nat.reduceAdd, Int.reduceLT, Int.reduceLE, Int.reduceNeg, Int.reduceEq, Nat.reduceLT, Nat.reduceSub, Nat.reduceMul, Nat.reduceBEq, Nat.reduceLeDiff, Int.reduceBEq, Int.reduceBNe, Int.reduceToNat, ne_eq, implies_true, bA]
              refine callI awake08_spec ?_
              simp (config := {maxSteps := 4000000}) only [U_law08_WearLess, d, fp, islV_map (g := rowB) hpl (rowB_len _), rowB, hp0, islV_map (g := rowB) hvl (rowB_len _), rowB, fv1, fv2, hv0, fv3, reduceIte, reduceCtorEq, Nat.reduceEqDiff, Nat.reduceAdd, Int.reduceLT, Int.reduceLE, Int.reduceNeg, Int.reduceEq, Nat.reduceLT, Nat.reduceSub, Nat.reduceMul, Nat.reduceBEq, Nat.reduceLeDiff, Int.reduceBEq, Int.reduceBNe, Int.reduceToNat, ne_eq, implies_true, bA]
            · rw [hve, hb]
              have fv1 : decide ((v : Int) < 0) = false := by simp
              have fv2 : decide (0 ≤ (v : Int)) = true := by simp
              simp (config := {maxSteps := 4000000}) only [U_law08_WearLess, d, fp, islV_map (g := rowB) hpl (rowB_len _), rowB, hp0, islV_map (g := rowB) hvl (rowB_len _), rowB, fv1, fv2, hv0, reduceIte, reduceCtorEq, Nat.reduceEqDiff, Nat.reduceAdd, Int.reduceLT, Int.reduceLE, Int.reduceNeg, Int.reduceEq, Nat.reduceLT, Nat.reduceSub, Nat.reduceMul, Nat.reduceBEq, Nat.reduceLeDiff, Int.reduceBEq, Int.reduceBNe, Int.reduceToNat, ne_eq, implies_true, bA]
              refine callI awake08_spec ?_
              simp (config := {maxSteps := 4000000}) only [U_law08_WearLess, d, fp, islV_map (g := rowB) hpl (rowB_len _), rowB, hp0, islV_map (g := rowB) hvl (rowB_len _), rowB, fv1, fv2, hv0, reduceIte, reduceCtorEq, Nat.reduceEqDiff, Nat.reduceAdd, Int.reduceLT, Int.reduceLE, Int.reduceNeg, Int.reduceEq, Nat.reduceLT, Nat.reduceSub, Nat.reduceMul, Nat.reduceBEq, Nat.reduceLeDiff, Int.reduceBEq, Int.reduceBNe, Int.reduceToNat, ne_eq, implies_true, bA]
            · rw [hve, hb]
              simp (config := {maxSteps := 4000000}) only [U_law08_WearLess, d, fp, islV_map (g := rowB) hpl (rowB_len _), rowB, hp0, reduceIte, reduceCtorEq, Nat.reduceEqDiff, Nat.reduceAdd, Int.reduceLT, Int.reduceLE, Int.reduceNeg, Int.reduceEq, Nat.reduceLT, Nat.reduceSub, Nat.reduceMul, Nat.reduceBEq, Nat.reduceLeDiff, Int.reduceBEq, Int.reduceBNe, Int.reduceToNat, ne_eq, implies_true, bA]
              refine callI awake08_spec ?_
              simp (config := {maxSteps := 4000000}) only [U_law08_WearLess, d, fp, islV_map (g := rowB) hpl (rowB_len _), rowB, hp0, reduceIte, reduceCtorEq, Nat.reduceEqDiff, Nat.reduceAdd, Int.reduceLT, Int.reduceLE, Int.reduceNeg, Int.reduceEq, Nat.reduceLT, Nat.reduceSub, Nat.reduceMul, Nat.reduceBEq, Nat.reduceLeDiff, Int.reduceBEq, Int.reduceBNe, Int.reduceToNat, ne_eq, implies_true, bA]
        · rw [hpe]
          rcases hC with ⟨c, hcl, hce, hc0⟩ | hce
          · rw [hce]
            have fc : decide (0 ≤ (c : Int)) = true := by simp
            rcases hV with ⟨hb, v, hvl, hve, hv0, hv1⟩ | ⟨hb, v, hvl, hve, hv0⟩ | ⟨hb, hve⟩
            · rw [hve, hb]
              have fv1 : decide ((v : Int) < 0) = false := by simp
              have fv2 : decide (0 ≤ (v : Int)) = true := by simp
              have fv3 : decide (0 < l[v].va) = true := by simpa using hv1
              simp (config := {maxSteps := 4000000}) only [U_law08_WearLess, d, fc, islV_map (g := rowB) hcl (rowB_len _), rowB, hc0, islV_map (g := rowB) hvl (rowB_len _), rowB, fv1, fv2, hv0, fv3, reduceIte, reduceCtorEq, Nat.reduceEqDiff, Nat.reduceAdd, Int.reduceLT, Int.reduceLE, Int.reduceNeg, Int.reduceEq, Nat.reduceLT, Nat.reduceSub, Nat.reduceMul, Nat.reduceBEq, Nat.reduceLeDiff, Int.reduceBEq, Int.reduceBNe, Int.reduceToNat, ne_eq, implies_true, bA]
              refine callI awake08_spec ?_
              simp (config := {maxSteps := 4000000}) only [U_law08_WearLess, d, fc, islV_map (g := rowB) hcl (rowB_len _), rowB, hc0, islV_map (g := rowB) hvl (rowB_len _), rowB, fv1, fv2, hv0, fv3, reduceIte, reduceCtorEq, Nat.reduceEqDiff, Nat.reduceAdd, Int.reduceLT, Int.reduceLE, Int.reduceNeg, Int.reduceEq, Nat.reduceLT, Nat.reduceSub, Nat.reduceMul, Nat.reduceBEq, Nat.reduceLeDiff, Int.reduceBEq, Int.reduceBNe, Int.reduceToNat, ne_eq, implies_true, bA]
            · rw [hve, hb]
              have fv1 : decide ((v : Int) < 0) = false := by simp
              have fv2 : decide (0 ≤ (v : Int)) = true := by simp
              simp (config := {maxSteps := 4000000}) only [U_law08_WearLess, d, fc, islV_map (g := rowB) hcl (rowB_len _), rowB, hc0, islV_map (g := rowB) hvl (rowB_len _), rowB, fv1, fv2, hv0, reduceIte, reduceCtorEq, Nat.reduceEqDiff, Nat.reduceAdd, Int.reduceLT, Int.reduceLE, Int.reduceNeg, Int.reduceEq, Nat.reduceLT, Nat.reduceSub, Nat.reduceMul, Nat.reduceBEq, Nat.reduceLeDiff, Int.reduceBEq, Int.reduceBNe, Int.reduceToNat, ne_eq, implies_true, bA]
              refine callI awake08_spec ?_
              simp (config := {maxSteps := 4000000}) only [U_law08_WearLess, d, fc, islV_map (g := rowB) hcl (rowB_len _), rowB, hc0, islV_map (g := rowB) hvl (rowB_len _), rowB, fv1, fv2, hv0, reduceIte, reduceCtorEq, Nat.reduceEqDiff, Nat.reduceAdd, Int.reduceLT, Int.reduceLE, Int.reduceNeg, Int.reduceEq, Nat.reduceLT, Nat.reduceSub, Nat.reduceMul, Nat.reduceBEq, Nat.reduceLeDiff, Int.reduceBEq, Int.reduceBNe, Int.reduceToNat, ne_eq, implies_true, bA]
            · rw [hve, hb]
              simp (config := {maxSteps := 4000000}) only [U_law08_WearLess, d, fc, islV_map (g := rowB) hcl (rowB_len _), rowB, hc0, reduceIte, reduceCtorEq, Nat.reduceEqDiff, Nat.reduceAdd, Int.reduceLT, Int.reduceLE, Int.reduceNeg, Int.reduceEq, Nat.reduceLT, Nat.reduceSub, Nat.reduceMul, Nat.reduceBEq, Nat.reduceLeDiff, Int.reduceBEq, Int.reduceBNe, Int.reduceToNat, ne_eq, implies_true, bA]
              refine callI awake08_spec ?_
              simp (config := {maxSteps := 4000000}) only [U_law08_WearLess, d, fc, islV_map (g := rowB) hcl (rowB_len _), rowB, hc0, reduceIte, reduceCtorEq, Nat.reduceEqDiff, Nat.reduceAdd, Int.reduceLT, Int.reduceLE, Int.reduceNeg, Int.reduceEq, Nat.reduceLT, Nat.reduceSub, Nat.reduceMul, Nat.reduceBEq, Nat.reduceLeDiff, Int.reduceBEq, Int.reduceBNe, Int.reduceToNat, ne_eq, implies_true, bA]
          · rw [hce]
            rcases hV with ⟨hb, v, hvl, hve, hv0, hv1⟩ | ⟨hb, v, hvl, hve, hv0⟩ | ⟨hb, hve⟩
            · rw [hve, hb]
              have fv1 : decide ((v : Int) < 0) = false := by simp
              have fv2 : decide (0 ≤ (v : Int)) = true := by simp
              have fv3 : decide (0 < l[v].va) = true := by simpa using hv1
              simp (config := {maxSteps := 4000000}) only [U_law08_WearLess, d, islV_map (g := rowB) hvl (rowB_len _), rowB, fv1, fv2, hv0, fv3, reduceIte, reduceCtorEq, Nat.reduceEqDiff, Nat.reduceAdd, Int.reduceLT, Int.reduceLE, Int.reduceNeg, Int.reduceEq, Nat.reduceLT, Nat.reduceSub, Nat.reduceMul, Nat.reduceBEq, Nat.reduceLeDiff, Int.reduceBEq, Int.reduceBNe, Int.reduceToNat, ne_eq, implies_true, bA]
              refine callI awake08_spec ?_
              simp (config := {maxSteps := 4000000}) only [U_law08_WearLess, d, islV_map (g := rowB) hvl (rowB_len _), rowB, fv1, fv2, hv0, fv3, reduceIte, reduceCtorEq, Nat.reduceEqDiff, Nat.reduceAdd, Int.reduceLT, Int.reduceLE, Int.reduceNeg, Int.reduceEq, Nat.reduceLT, Nat.reduceSub, Nat.reduceMul, Nat.reduceBEq, Nat.reduceLeDiff, Int.reduceBEq, Int.reduceBNe, Int.reduceToNat, ne_eq, implies_true, bA]
            · rw [hve, hb]
              have fv1 : decide ((v : Int) < 0) = false := by simp
              have fv2 : decide (0 ≤ (v : Int)) = true := by simp
              simp (config := {maxSteps := 4000000}) only [U_law08_WearLess, d, islV_map (g := rowB) hvl (rowB_len _), rowB, fv1, fv2, hv0, reduceIte, reduceCtorEq, Nat.reduceEqDiff, Nat.reduceAdd, Int.reduceLT, Int.reduceLE, Int.reduceNeg, Int.reduceEq, Nat.reduceLT, Nat.reduceSub, Nat.reduceMul, Nat.reduceBEq, Nat.reduceLeDiff, Int.reduceBEq, Int.reduceBNe, Int.reduceToNat, ne_eq, implies_true, bA]
              refine callI awake08_spec ?_
              simp (config := {maxSteps := 4000000}) only [U_law08_WearLess, d, islV_map (g := rowB) hvl (rowB_len _), rowB, fv1, fv2, hv0, reduceIte, reduceCtorEq, Nat.reduceEqDiff, Nat.reduceAdd, Int.reduceLT, Int.reduceLE, Int.reduceNeg, Int.reduceEq, Nat.reduceLT, Nat.reduceSub, Nat.reduceMul, Nat.reduceBEq, Nat.reduceLeDiff, Int.reduceBEq, Int.reduceBNe, Int.reduceToNat, ne_eq, implies_true, bA]
            · rw [hve, hb]
              simp (config := {maxSteps := 4000000}) only [U_law08_WearLess, d, reduceIte, reduceCtorEq, Nat.reduceEqDiff, Nat.reduceAdd, Int.reduceLT, Int.reduceLE, Int.reduceNeg, Int.reduceEq, Nat.reduceLT, Nat.reduceSub, Nat.reduceMul, Nat.reduceBEq, Nat.reduceLeDiff, Int.reduceBEq, Int.reduceBNe, Int.reduceToNat, ne_eq, implies_true, bA]
              refine callI awake08_spec ?_
              simp (config := {maxSteps := 4000000}) only [U_law08_WearLess, d, reduceIte, reduceCtorEq, Nat.reduceEqDiff, Nat.reduceAdd, Int.reduceLT, Int.reduceLE, Int.reduceNeg, Int.reduceEq, Nat.reduceLT, Nat.reduceSub, Nat.reduceMul, Nat.reduceBEq, Nat.reduceLeDiff, Int.reduceBEq, Int.reduceBNe, Int.reduceToNat, ne_eq, implies_true, bA]
  · have d : decide ((300 : Int) < (l.length : Int)) = true := by simp; omega
    simp (config := {maxSteps := 4000000}) only [U_law08_WearLess, d, reduceIte, reduceCtorEq, Nat.reduceEqDiff, Nat.reduceAdd, Int.reduceLT, Int.reduceLE, Int.reduceNeg, Int.reduceEq, Nat.reduceLT, Nat.reduceSub, Nat.reduceMul, Nat.reduceBEq, Nat.reduceLeDiff, Int.reduceBEq, Int.reduceBNe, Int.reduceToNat, ne_eq, implies_true, bA]
    refine callI awake08_spec ?_
    simp (config := {maxSteps := 4000000}) only [U_law08_WearLess, reduceIte, reduceCtorEq, Nat.reduceEqDiff, Nat.reduceAdd, Int.reduceLT, Int.reduceLE, Int.reduceNeg, Int.reduceEq, Nat.reduceLT, Nat.reduceSub, Nat.reduceMul, Nat.reduceBEq, Nat.reduceLeDiff, Int.reduceBEq, Int.reduceBNe, Int.reduceToNat, ne_eq, implies_true, bA]
theorem less_fit (ps : List PV) (h : fitVs [.sl shB, .int .i64] ps) : PCall Try.prog 6 ps (.bool true) := by
  obtain ⟨_, _, rfl, ⟨rows, hr, hl, hf⟩, _, _, rfl, ⟨s, hs, ws⟩, rfl⟩ := h
  cases hr; cases hs
  obtain ⟨l, rfl, hw⟩ := rows_blk rows hf
  exact less_law l s (by simpa [maxLen] using hl) hw
end Go.Proofs.Ytfdehjkpglkheaa.Aw
