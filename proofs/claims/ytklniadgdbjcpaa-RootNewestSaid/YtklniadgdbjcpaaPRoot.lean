/-
  What the functions of the package 'root' compute, and the document's: which records may be.
-/
import Derived.Test.YtklniadgdbjcpaaMRoot
set_option linter.unusedSimpArgs false
set_option linter.unusedVariables false
namespace Go.Proofs.Ytklniadgdbjcpaa.Aw
open Go.RowKit

abbrev pS (s : Sp) : PV := .agg (rowSp s)
theorem in_spec (n a b : Int) : PCall Try.prog 34 [.int .i64 n, .int .i64 a, .int .i64 b] (.bool (inL n a b)) := by
  refine pcall_go Try.func34 comp_root_in ?_
  by_cases w0 : a ≤ n
  · have x0 := decide_eq_true w0
    simp (config := {maxSteps := 4000000}) only [U_root_in, x0, reduceIte, reduceCtorEq, Nat.reduceEqDiff, Nat.reduceAdd, Int.reduceLT, Int.reduceLE, Int.reduceNeg, Int.reduceEq, Nat.reduceLT, Nat.reduceSub, Nat.reduceMul, Nat.reduceBEq, Nat.reduceLeDiff, Int.reduceBEq, Int.reduceBNe, Int.reduceToNat, ne_eq, implies_true, bA]
    simp [inL, w0]
  · have x0 := decide_eq_false w0
    simp (config := {maxSteps := 4000000}) only [U_root_in, x0, reduceIte, reduceCtorEq, Nat.reduceEqDiff, Nat.reduceAdd, Int.reduceLT, Int.reduceLE, Int.reduceNeg, Int.reduceEq, Nat.reduceLT, Nat.reduceSub, Nat.reduceMul, Nat.reduceBEq, Nat.reduceLeDiff, Int.reduceBEq, Int.reduceBNe, Int.reduceToNat, ne_eq, implies_true, bA]
    simp [inL, w0]
theorem space_spec (s : Sp) : PCall Try.prog 35 [pS s] (.bool (spaceB s)) := by
  refine pcall_go Try.func35 comp_root_space ?_
  simp (config := {maxSteps := 4000000}) only [U_root_space, rowSp, reduceIte, reduceCtorEq, Nat.reduceEqDiff, Nat.reduceAdd, Int.reduceLT, Int.reduceLE, Int.reduceNeg, Int.reduceEq, Nat.reduceLT, Nat.reduceSub, Nat.reduceMul, Nat.reduceBEq, Nat.reduceLeDiff, Int.reduceBEq, Int.reduceBNe, Int.reduceToNat, ne_eq, implies_true, bA]
  refine callI (in_spec s.id 1 65535) ?_
  cases w1 : inL s.id 1 65535 with
  | true =>
    simp (config := {maxSteps := 4000000}) only [U_root_space, rowSp, reduceIte, reduceCtorEq, Nat.reduceEqDiff, Nat.reduceAdd, Int.reduceLT, Int.reduceLE, Int.reduceNeg, Int.reduceEq, Nat.reduceLT, Nat.reduceSub, Nat.reduceMul, Nat.reduceBEq, Nat.reduceLeDiff, Int.reduceBEq, Int.reduceBNe, Int.reduceToNat, ne_eq, implies_true, bA]
    refine callI (in_spec s.sz 0 16777216) ?_
    cases w2 : inL s.sz 0 16777216 with
    | true =>
      simp (config := {maxSteps := 4000000}) only [U_root_space, rowSp, reduceIte, reduceCtorEq, Nat.reduceEqDiff, Nat.reduceAdd, Int.reduceLT, Int.reduceLE, Int.reduceNeg, Int.reduceEq, Nat.reduceLT, Nat.reduceSub, Nat.reduceMul, Nat.reduceBEq, Nat.reduceLeDiff, Int.reduceBEq, Int.reduceBNe, Int.reduceToNat, ne_eq, implies_true, bA]
      refine callI (in_spec s.hi 0 6) ?_
      cases w3 : inL s.hi 0 6 with
      | true =>
        by_cases w4 : s.hi = 0
        · have x4 : (s.hi == 0) = true := beq_iff_eq.2 w4
          simp (config := {maxSteps := 4000000}) only [U_root_space, rowSp, x4, reduceIte, reduceCtorEq, Nat.reduceEqDiff, Nat.reduceAdd, Int.reduceLT, Int.reduceLE, Int.reduceNeg, Int.reduceEq, Nat.reduceLT, Nat.reduceSub, Nat.reduceMul, Nat.reduceBEq, Nat.reduceLeDiff, Int.reduceBEq, Int.reduceBNe, Int.reduceToNat, ne_eq, implies_true, bA]
          have : inL 0 0 6 = true := by decide
          simp [spaceB, this, w1, w2, w3, w4]
        · have x4 : (s.hi == 0) = false := beq_eq_false_iff_ne.2 w4
          simp (config := {maxSteps := 4000000}) only [U_root_space, rowSp, x4, reduceIte, reduceCtorEq, Nat.reduceEqDiff, Nat.reduceAdd, Int.reduceLT, Int.reduceLE, Int.reduceNeg, Int.reduceEq, Nat.reduceLT, Nat.reduceSub, Nat.reduceMul, Nat.reduceBEq, Nat.reduceLeDiff, Int.reduceBEq, Int.reduceBNe, Int.reduceToNat, ne_eq, implies_true, bA]
          refine callI (in_spec s.tp 0 2047) ?_
          simp (config := {maxSteps := 4000000}) only [U_root_space, reduceIte, reduceCtorEq, Nat.reduceEqDiff, Nat.reduceAdd, Int.reduceLT, Int.reduceLE, Int.reduceNeg, Int.reduceEq, Nat.reduceLT, Nat.reduceSub, Nat.reduceMul, Nat.reduceBEq, Nat.reduceLeDiff, Int.reduceBEq, Int.reduceBNe, Int.reduceToNat, ne_eq, implies_true, bA]
          simp [spaceB, w1, w2, w3, w4]
      | false =>
        simp (config := {maxSteps := 4000000}) only [U_root_space, rowSp, reduceIte, reduceCtorEq, Nat.reduceEqDiff, Nat.reduceAdd, Int.reduceLT, Int.reduceLE, Int.reduceNeg, Int.reduceEq, Nat.reduceLT, Nat.reduceSub, Nat.reduceMul, Nat.reduceBEq, Nat.reduceLeDiff, Int.reduceBEq, Int.reduceBNe, Int.reduceToNat, ne_eq, implies_true, bA]
        simp [spaceB, w1, w2, w3]
    | false =>
      simp (config := {maxSteps := 4000000}) only [U_root_space, rowSp, reduceIte, reduceCtorEq, Nat.reduceEqDiff, Nat.reduceAdd, Int.reduceLT, Int.reduceLE, Int.reduceNeg, Int.reduceEq, Nat.reduceLT, Nat.reduceSub, Nat.reduceMul, Nat.reduceBEq, Nat.reduceLeDiff, Int.reduceBEq, Int.reduceBNe, Int.reduceToNat, ne_eq, implies_true, bA]
      simp [spaceB, w1, w2]
  | false =>
    simp (config := {maxSteps := 4000000}) only [U_root_space, rowSp, reduceIte, reduceCtorEq, Nat.reduceEqDiff, Nat.reduceAdd, Int.reduceLT, Int.reduceLE, Int.reduceNeg, Int.reduceEq, Nat.reduceLT, Nat.reduceSub, Nat.reduceMul, Nat.reduceBEq, Nat.reduceLeDiff, Int.reduceBEq, Int.reduceBNe, Int.reduceToNat, ne_eq, implies_true, bA]
    simp [spaceB, w1]
theorem may_spec (g : Int) (l : List Sp) (hm : l.length ≤ 9223372036854775807) : PCall Try.prog 19 [.int .i64 g, .slc (l.map rowSp)] (.bool (mayR g l)) := by
  refine pcall_go Try.func19 comp_root_may ?_
  simp (config := {maxSteps := 4000000}) only [U_root_may, reduceIte, reduceCtorEq, Nat.reduceEqDiff, Nat.reduceAdd, Int.reduceLT, Int.reduceLE, Int.reduceNeg, Int.reduceEq, Nat.reduceLT, Nat.reduceSub, Nat.reduceMul, Nat.reduceBEq, Nat.reduceLeDiff, Int.reduceBEq, Int.reduceBNe, Int.reduceToNat, ne_eq, implies_true, bA]
  refine callI (in_spec g 0 1099511627775) ?_
  cases hg : inL g 0 1099511627775 with
  | false =>
    simp (config := {maxSteps := 4000000}) only [U_root_may, reduceIte, reduceCtorEq, Nat.reduceEqDiff, Nat.reduceAdd, Int.reduceLT, Int.reduceLE, Int.reduceNeg, Int.reduceEq, Nat.reduceLT, Nat.reduceSub, Nat.reduceMul, Nat.reduceBEq, Nat.reduceLeDiff, Int.reduceBEq, Int.reduceBNe, Int.reduceToNat, ne_eq, implies_true, bA]
    simp [mayR, hg]
  | true =>
    by_cases hlen : l.length ≤ 8
    · have d0 : decide ((8 : Int) < (l.length : Int)) = false := by simp; omega
      simp (config := {maxSteps := 4000000}) only [U_root_may, d0, reduceIte, reduceCtorEq, Nat.reduceEqDiff, Nat.reduceAdd, Int.reduceLT, Int.reduceLE, Int.reduceNeg, Int.reduceEq, Nat.reduceLT, Nat.reduceSub, Nat.reduceMul, Nat.reduceBEq, Nat.reduceLeDiff, Int.reduceBEq, Int.reduceBNe, Int.reduceToNat, ne_eq, implies_true, bA]
      refine loopF (fun i : Nat => ⟨ofL [(1, .slc (l.map rowSp)), (15, .slc (l.map rowSp)), (16, .int .i64 l.length), (17, .int .i64 i)], []⟩)
        (fun i => i ≤ l.length ∧ (∀ j (h : j < l.length), j < i → spaceB l[j] = true) ∧ ∀ j (h : j + 1 < l.length), j + 1 < i → riseB l[j] l[j + 1] = true) (fun i => l.length - i) 0 ?_ ⟨Nat.zero_le _, fun j _ h => absurd h (by omega), fun j _ h => absurd h (by omega)⟩ ?_
      · simp (config := {maxSteps := 4000000}) only [U_root_may, reduceIte, reduceCtorEq, Nat.reduceEqDiff, Nat.reduceAdd, Int.reduceLT, Int.reduceLE, Int.reduceNeg, Int.reduceEq, Nat.reduceLT, Nat.reduceSub, Nat.reduceMul, Nat.reduceBEq, Nat.reduceLeDiff, Int.reduceBEq, Int.reduceBNe, Int.reduceToNat, ne_eq, implies_true, bA]
        all_goals rfl
      · intro i ⟨hi, h1, h2⟩
        by_cases h : i < l.length
        · have d : decide ((i : Int) < (l.length : Int)) = true := by simpa using h
          have e1 : IntKind.i64.wrap ((i : Int) + 1) = ((i + 1 : Nat) : Int) := by rw [wrapI (by omega) (by omega)]; omega
          have hno : spaceB l[i] = false → mayR g l = false := fun ho => by rw [mayR, lkB_no1 h ho]; simp
          have hgo : spaceB l[i] = true → ∀ j (h : j < l.length), j < i + 1 → spaceB l[j] = true := fun ho j hj hlt => by
            by_cases e : j = i
            · subst e; exact ho
            · exact h1 j hj (by omega)
          simp (config := {maxSteps := 4000000}) only [U_root_may, d, islV_map (g := rowSp) h (rowSp_len _), rowSp, reduceIte, reduceCtorEq, Nat.reduceEqDiff, Nat.reduceAdd, Int.reduceLT, Int.reduceLE, Int.reduceNeg, Int.reduceEq, Nat.reduceLT, Nat.reduceSub, Nat.reduceMul, Nat.reduceBEq, Nat.reduceLeDiff, Int.reduceBEq, Int.reduceBNe, Int.reduceToNat, ne_eq, implies_true, bA]
          refine callI (space_spec l[i]) ?_
          cases ho : spaceB l[i] with
          | false => simp (config := {maxSteps := 4000000}) only [U_root_may, hno ho, reduceIte, reduceCtorEq, Nat.reduceEqDiff, Nat.reduceAdd, Int.reduceLT, Int.reduceLE, Int.reduceNeg, Int.reduceEq, Nat.reduceLT, Nat.reduceSub, Nat.reduceMul, Nat.reduceBEq, Nat.reduceLeDiff, Int.reduceBEq, Int.reduceBNe, Int.reduceToNat, ne_eq, implies_true, bA]
          | true =>
            by_cases h0 : 0 < i
            · have d2 : decide ((0 : Int) < (i : Int)) = true := by simpa using h0
              obtain ⟨k, rfl⟩ : ∃ k, i = k + 1 := ⟨i - 1, by omega⟩
              have hk : k < l.length := by omega
              have e2 : IntKind.i64.wrap (((k + 1 : Nat) : Int) - 1) = (k : Int) := by rw [wrapI (by omega) (by omega)]; omega
              by_cases hl : l[k].id < l[k + 1].id
              · have d3 : decide (l[k + 1].id ≤ l[k].id) = false := by simp; omega
                simp (config := {maxSteps := 4000000}) only [U_root_may, d, d2, d3, e2, islV_map (g := rowSp) h (rowSp_len _), islV_map (g := rowSp) hk (rowSp_len _), rowSp, e1, reduceIte, reduceCtorEq, Nat.reduceEqDiff, Nat.reduceAdd, Int.reduceLT, Int.reduceLE, Int.reduceNeg, Int.reduceEq, Nat.reduceLT, Nat.reduceSub, Nat.reduceMul, Nat.reduceBEq, Nat.reduceLeDiff, Int.reduceBEq, Int.reduceBNe, Int.reduceToNat, ne_eq, implies_true, bA]
                refine ⟨k + 1 + 1, rfl, ⟨by omega, hgo ho, fun j hj hlt => ?_⟩, by omega⟩
                by_cases e : j = k
                · subst e; simpa [riseB] using hl
                · exact h2 j hj (by omega)
              · have d3 : decide (l[k + 1].id ≤ l[k].id) = true := by simp; omega
                have hr : mayR g l = false := by rw [mayR, lkB_no2 h (by simpa [riseB] using hl)]; simp
                simp (config := {maxSteps := 4000000}) only [U_root_may, d, d2, d3, e2, islV_map (g := rowSp) h (rowSp_len _), islV_map (g := rowSp) hk (rowSp_len _), rowSp, hr, reduceIte, reduceCtorEq, Nat.reduceEqDiff, Nat.reduceAdd, Int.reduceLT, Int.reduceLE, Int.reduceNeg, Int.reduceEq, Nat.reduceLT, Nat.reduceSub, Nat.reduceMul, Nat.reduceBEq, Nat.reduceLeDiff, Int.reduceBEq, Int.reduceBNe, Int.reduceToNat, ne_eq, implies_true, bA]
            · have d2 : decide ((0 : Int) < (i : Int)) = false := by simpa using h0
              simp (config := {maxSteps := 4000000}) only [U_root_may, d, d2, islV_map (g := rowSp) h (rowSp_len _), rowSp, e1, reduceIte, reduceCtorEq, Nat.reduceEqDiff, Nat.reduceAdd, Int.reduceLT, Int.reduceLE, Int.reduceNeg, Int.reduceEq, Nat.reduceLT, Nat.reduceSub, Nat.reduceMul, Nat.reduceBEq, Nat.reduceLeDiff, Int.reduceBEq, Int.reduceBNe, Int.reduceToNat, ne_eq, implies_true, bA]
              exact ⟨i + 1, rfl, ⟨by omega, hgo ho, fun j hj hlt => absurd hlt (by omega)⟩, by omega⟩
        · have d : decide ((i : Int) < (l.length : Int)) = false := by simpa using h
          have hr : mayR g l = true := mayR_iff.2 ⟨inL_iff.1 hg, hlen, lkB_at.2 ⟨fun j hj => h1 j hj (by omega), fun j hj => h2 j hj (by omega)⟩⟩
          simp (config := {maxSteps := 4000000}) only [U_root_may, d, hr, reduceIte, reduceCtorEq, Nat.reduceEqDiff, Nat.reduceAdd, Int.reduceLT, Int.reduceLE, Int.reduceNeg, Int.reduceEq, Nat.reduceLT, Nat.reduceSub, Nat.reduceMul, Nat.reduceBEq, Nat.reduceLeDiff, Int.reduceBEq, Int.reduceBNe, Int.reduceToNat, ne_eq, implies_true, bA]
    · have d0 : decide ((8 : Int) < (l.length : Int)) = true := by simp; omega
      have hr : mayR g l = false := by simp [mayR, hlen]
      simp (config := {maxSteps := 4000000}) only [U_root_may, d0, hr, reduceIte, reduceCtorEq, Nat.reduceEqDiff, Nat.reduceAdd, Int.reduceLT, Int.reduceLE, Int.reduceNeg, Int.reduceEq, Nat.reduceLT, Nat.reduceSub, Nat.reduceMul, Nat.reduceBEq, Nat.reduceLeDiff, Int.reduceBEq, Int.reduceBNe, Int.reduceToNat, ne_eq, implies_true, bA]
theorem rmay_spec (g : Int) (l : List Sp) (hm : l.length ≤ 9223372036854775807) : PCall Try.prog 23 [.int .i64 g, .slc (l.map rowSp)] (.bool (mayR g l)) := by
  refine pcall_go Try.func23 comp_ref12_May ?_
  by_cases hg1 : g < 0
  · have d1 := decide_eq_true hg1
    have hr : mayR g l = false := by
      rw [← Bool.not_eq_true, mayR_iff]; omega
    simp (config := {maxSteps := 4000000}) only [U_ref12_May, d1, hr, reduceIte, reduceCtorEq, Nat.reduceEqDiff, Nat.reduceAdd, Int.reduceLT, Int.reduceLE, Int.reduceNeg, Int.reduceEq, Nat.reduceLT, Nat.reduceSub, Nat.reduceMul, Nat.reduceBEq, Nat.reduceLeDiff, Int.reduceBEq, Int.reduceBNe, Int.reduceToNat, ne_eq, implies_true, bA]
  · have d1 := decide_eq_false hg1
    by_cases hg2 : 1099511627775 < g
    · have d2 := decide_eq_true hg2
      have hr : mayR g l = false := by
        rw [← Bool.not_eq_true, mayR_iff]; omega
      simp (config := {maxSteps := 4000000}) only [U_ref12_May, d1, d2, hr, reduceIte, reduceCtorEq, Nat.reduceEqDiff, Nat.reduceAdd, Int.reduceLT, Int.reduceLE, Int.reduceNeg, Int.reduceEq, Nat.reduceLT, Nat.reduceSub, Nat.reduceMul, Nat.reduceBEq, Nat.reduceLeDiff, Int.reduceBEq, Int.reduceBNe, Int.reduceToNat, ne_eq, implies_true, bA]
    · have d2 := decide_eq_false hg2
      have hg : inL g 0 1099511627775 = true := inL_iff.2 (by omega)
      by_cases hlen : l.length ≤ 8
      · have d0 : decide ((8 : Int) < (l.length : Int)) = false := by simp; omega
        simp (config := {maxSteps := 4000000}) only [U_ref12_May, d1, d2, d0, reduceIte, reduceCtorEq, Nat.reduceEqDiff, Nat.reduceAdd, Int.reduceLT, Int.reduceLE, Int.reduceNeg, Int.reduceEq, Nat.reduceLT, Nat.reduceSub, Nat.reduceMul, Nat.reduceBEq, Nat.reduceLeDiff, Int.reduceBEq, Int.reduceBNe, Int.reduceToNat, ne_eq, implies_true, bA]
        refine loopF (fun i : Nat => ⟨ofL [(1, .slc (l.map rowSp)), (5, .int .i64 i)], []⟩)
          (fun i => i ≤ l.length ∧ (∀ j (h : j < l.length), j < i → spaceB l[j] = true) ∧ ∀ j (h : j + 1 < l.length), j + 1 < i → riseB l[j] l[j + 1] = true) (fun i => l.length - i) 0 ?_ ⟨Nat.zero_le _, fun j _ h => absurd h (by omega), fun j _ h => absurd h (by omega)⟩ ?_
        · simp (config := {maxSteps := 4000000}) only [U_ref12_May, reduceIte, reduceCtorEq, Nat.reduceEqDiff, Nat.reduceAdd, Int.reduceLT, Int.reduceLE, Int.reduceNeg, Int.reduceEq, Nat.reduceLT, Nat.reduceSub, Nat.reduceMul, Nat.reduceBEq, Nat.reduceLeDiff, Int.reduceBEq, Int.reduceBNe, Int.reduceToNat, ne_eq, implies_true, bA]
          all_goals rfl
        · intro i ⟨hi, h1, h2⟩
          by_cases h : i < l.length
          · have d : decide ((i : Int) < (l.length : Int)) = true := by simpa using h
            have e1 : IntKind.i64.wrap ((i : Int) + 1) = ((i + 1 : Nat) : Int) := by rw [wrapI (by omega) (by omega)]; omega
            have hno : spaceB l[i] = false → mayR g l = false := fun ho => by rw [mayR, lkB_no1 h ho]; simp
            have hgo : spaceB l[i] = true → ∀ j (h : j < l.length), j < i + 1 → spaceB l[j] = true := fun ho j hj hlt => by
              by_cases e : j = i
              · subst e; exact ho
              · exact h1 j hj (by omega)
            by_cases w5 : l[i].id < 1
            · have x5 := decide_eq_true w5
              have ho : spaceB l[i] = false := by rw [← Bool.not_eq_true, spaceB_iff]; omega
              simp (config := {maxSteps := 4000000}) only [U_ref12_May, d, islV_map (g := rowSp) h (rowSp_len _), rowSp, x5, hno ho, reduceIte, reduceCtorEq, Nat.reduceEqDiff, Nat.reduceAdd, Int.reduceLT, Int.reduceLE, Int.reduceNeg, Int.reduceEq, Nat.reduceLT, Nat.reduceSub, Nat.reduceMul, Nat.reduceBEq, Nat.reduceLeDiff, Int.reduceBEq, Int.reduceBNe, Int.reduceToNat, ne_eq, implies_true, bA]
            · have x5 := decide_eq_false w5
              by_cases w6 : 65535 < l[i].id
              · have x6 := decide_eq_true w6
                have ho : spaceB l[i] = false := by rw [← Bool.not_eq_true, spaceB_iff]; omega
                simp (config := {maxSteps := 4000000}) only [U_ref12_May, d, islV_map (g := rowSp) h (rowSp_len _), rowSp, x5, x6, hno ho, reduceIte, reduceCtorEq, Nat.reduceEqDiff, Nat.reduceAdd, Int.reduceLT, Int.reduceLE, Int.reduceNeg, Int.reduceEq, Nat.reduceLT, Nat.reduceSub, Nat.reduceMul, Nat.reduceBEq, Nat.reduceLeDiff, Int.reduceBEq, Int.reduceBNe, Int.reduceToNat, ne_eq, implies_true, bA]
              · have x6 := decide_eq_false w6
                by_cases w7 : l[i].sz < 0
                · have x7 := decide_eq_true w7
                  have ho : spaceB l[i] = false := by rw [← Bool.not_eq_true, spaceB_iff]; omega
                  simp (config := {maxSteps := 4000000}) only [U_ref12_May, d, islV_map (g := rowSp) h (rowSp_len _), rowSp, x5, x6, x7, hno ho, reduceIte, reduceCtorEq, Nat.reduceEqDiff, Nat.reduceAdd, Int.reduceLT, Int.reduceLE, Int.reduceNeg, Int.reduceEq, Nat.reduceLT, Nat.reduceSub, Nat.reduceMul, Nat.reduceBEq, Nat.reduceLeDiff, Int.reduceBEq, Int.reduceBNe, Int.reduceToNat, ne_eq, implies_true, bA]
                · have x7 := decide_eq_false w7
                  by_cases w8 : 16777216 < l[i].sz
                  · have x8 := decide_eq_true w8
                    have ho : spaceB l[i] = false := by rw [← Bool.not_eq_true, spaceB_iff]; omega
                    simp (config := {maxSteps := 4000000}) only [U_ref12_May, d, islV_map (g := rowSp) h (rowSp_len _), rowSp, x5, x6, x7, x8, hno ho, reduceIte, reduceCtorEq, Nat.reduceEqDiff, Nat.reduceAdd, Int.reduceLT, Int.reduceLE, Int.reduceNeg, Int.reduceEq, Nat.reduceLT, Nat.reduceSub, Nat.reduceMul, Nat.reduceBEq, Nat.reduceLeDiff, Int.reduceBEq, Int.reduceBNe, Int.reduceToNat, ne_eq, implies_true, bA]
                  · have x8 := decide_eq_false w8
                    by_cases w9 : l[i].hi < 0
                    · have x9 := decide_eq_true w9
                      have ho : spaceB l[i] = false := by rw [← Bool.not_eq_true, spaceB_iff]; omega
                      simp (config := {maxSteps := 4000000}) only [U_ref12_May, d, islV_map (g := rowSp) h (rowSp_len _), rowSp, x5, x6, x7, x8, x9, hno ho, reduceIte, reduceCtorEq, Nat.reduceEqDiff, Nat.reduceAdd, Int.reduceLT, Int.reduceLE, Int.reduceNeg, Int.reduceEq, Nat.reduceLT, Nat.reduceSub, Nat.reduceMul, Nat.reduceBEq, Nat.reduceLeDiff, Int.reduceBEq, Int.reduceBNe, Int.reduceToNat, ne_eq, implies_true, bA]
                    · have x9 := decide_eq_false w9
                      by_cases w10 : 6 < l[i].hi
                      · have x10 := decide_eq_true w10
                        have ho : spaceB l[i] = false := by rw [← Bool.not_eq_true, spaceB_iff]; omega
                        simp (config := {maxSteps := 4000000}) only [U_ref12_May, d, islV_map (g := rowSp) h (rowSp_len _), rowSp, x5, x6, x7, x8, x9, x10, hno ho, reduceIte, reduceCtorEq, Nat.reduceEqDiff, Nat.reduceAdd, Int.reduceLT, Int.reduceLE, Int.reduceNeg, Int.reduceEq, Nat.reduceLT, Nat.reduceSub, Nat.reduceMul, Nat.reduceBEq, Nat.reduceLeDiff, Int.reduceBEq, Int.reduceBNe, Int.reduceToNat, ne_eq, implies_true, bA]
                      · have x10 := decide_eq_false w10
                        by_cases w11 : l[i].hi = 0
                        · have x11 : (l[i].hi == 0) = true := beq_iff_eq.2 w11
                          by_cases w12 : l[i].tp = -1
                          · have x12 : (l[i].tp != -1) = false := bne_eq_false_iff_eq.2 w12
                            by_cases w13 : 0 < l[i].hi
                            · have x13 := decide_eq_true w13
                              omega
                            · have x13 := decide_eq_false w13
                              have ho : spaceB l[i] = true := spaceB_iff.2 ⟨by omega, by omega, by omega, by omega⟩
                              by_cases h0 : 0 < i
                              · have d2 : decide ((0 : Int) < (i : Int)) = true := by simpa using h0
                                obtain ⟨k, rfl⟩ : ∃ k, i = k + 1 := ⟨i - 1, by omega⟩
                                have hk : k < l.length := by omega
                                have e2 : IntKind.i64.wrap (((k + 1 : Nat) : Int) - 1) = (k : Int) := by rw [wrapI (by omega) (by omega)]; omega
                                by_cases hl : l[k].id < l[k + 1].id
                                · have d3 : decide (l[k + 1].id ≤ l[k].id) = false := by simp; omega
                                  simp (config := {maxSteps := 4000000}) only [U_ref12_May, d, x5, x6, x7, x8, x9, x10, x11, x12, x13, d2, d3, e2, islV_map (g := rowSp) h (rowSp_len _), islV_map (g := rowSp) hk (rowSp_len _), rowSp, e1, reduceIte, reduceCtorEq, Nat.reduceEqDiff, Nat.reduceAdd, Int.reduceLT, Int.reduceLE, Int.reduceNeg, Int.reduceEq, Nat.reduceLT, Nat.reduceSub, Nat.reduceMul, Nat.reduceBEq, Nat.reduceLeDiff, Int.reduceBEq, Int.reduceBNe, Int.reduceToNat, ne_eq, implies_true, bA]
                                  refine ⟨k + 1 + 1, rfl, ⟨by omega, hgo ho, fun j hj hlt => ?_⟩, by omega⟩
                                  by_cases e : j = k
                                  · subst e; simpa [riseB] using hl
                                  · exact h2 j hj (by omega)
                                · have d3 : decide (l[k + 1].id ≤ l[k].id) = true := by simp; omega
                                  have hr : mayR g l = false := by rw [mayR, lkB_no2 h (by simpa [riseB] using hl)]; simp
                                  simp (config := {maxSteps := 4000000}) only [U_ref12_May, d, x5, x6, x7, x8, x9, x10, x11, x12, x13, d2, d3, e2, islV_map (g := rowSp) h (rowSp_len _), islV_map (g := rowSp) hk (rowSp_len _), rowSp, hr, reduceIte, reduceCtorEq, Nat.reduceEqDiff, Nat.reduceAdd, Int.reduceLT, Int.reduceLE, Int.reduceNeg, Int.reduceEq, Nat.reduceLT, Nat.reduceSub, Nat.reduceMul, Nat.reduceBEq, Nat.reduceLeDiff, Int.reduceBEq, Int.reduceBNe, Int.reduceToNat, ne_eq, implies_true, bA]
                              · have d2 : decide ((0 : Int) < (i : Int)) = false := by simpa using h0
                                simp (config := {maxSteps := 4000000}) only [U_ref12_May, d, x5, x6, x7, x8, x9, x10, x11, x12, x13, d2, islV_map (g := rowSp) h (rowSp_len _), rowSp, e1, reduceIte, reduceCtorEq, Nat.reduceEqDiff, Nat.reduceAdd, Int.reduceLT, Int.reduceLE, Int.reduceNeg, Int.reduceEq, Nat.reduceLT, Nat.reduceSub, Nat.reduceMul, Nat.reduceBEq, Nat.reduceLeDiff, Int.reduceBEq, Int.reduceBNe, Int.reduceToNat, ne_eq, implies_true, bA]
                                exact ⟨i + 1, rfl, ⟨by omega, hgo ho, fun j hj hlt => absurd hlt (by omega)⟩, by omega⟩
                          · have x12 : (l[i].tp != -1) = true := bne_iff_ne.2 w12
                            have ho : spaceB l[i] = false := by rw [← Bool.not_eq_true, spaceB_iff]; omega
                            simp (config := {maxSteps := 4000000}) only [U_ref12_May, d, islV_map (g := rowSp) h (rowSp_len _), rowSp, x5, x6, x7, x8, x9, x10, x11, x12, hno ho, reduceIte, reduceCtorEq, Nat.reduceEqDiff, Nat.reduceAdd, Int.reduceLT, Int.reduceLE, Int.reduceNeg, Int.reduceEq, Nat.reduceLT, Nat.reduceSub, Nat.reduceMul, Nat.reduceBEq, Nat.reduceLeDiff, Int.reduceBEq, Int.reduceBNe, Int.reduceToNat, ne_eq, implies_true, bA]
                        · have x11 : (l[i].hi == 0) = false := beq_eq_false_iff_ne.2 w11
                          by_cases w14 : 0 < l[i].hi
                          · have x14 := decide_eq_true w14
                            by_cases w15 : l[i].tp < 0
                            · have x15 := decide_eq_true w15
                              have ho : spaceB l[i] = false := by rw [← Bool.not_eq_true, spaceB_iff]; omega
                              simp (config := {maxSteps := 4000000}) only [U_ref12_May, d, islV_map (g := rowSp) h (rowSp_len _), rowSp, x5, x6, x7, x8, x9, x10, x11, x14, x15, hno ho, reduceIte, reduceCtorEq, Nat.reduceEqDiff, Nat.reduceAdd, Int.reduceLT, Int.reduceLE, Int.reduceNeg, Int.reduceEq, Nat.reduceLT, Nat.reduceSub, Nat.reduceMul, Nat.reduceBEq, Nat.reduceLeDiff, Int.reduceBEq, Int.reduceBNe, Int.reduceToNat, ne_eq, implies_true, bA]
                            · have x15 := decide_eq_false w15
                              by_cases w16 : 2047 < l[i].tp
                              · have x16 := decide_eq_true w16
                                have ho : spaceB l[i] = false := by rw [← Bool.not_eq_true, spaceB_iff]; omega
                                simp (config := {maxSteps := 4000000}) only [U_ref12_May, d, islV_map (g := rowSp) h (rowSp_len _), rowSp, x5, x6, x7, x8, x9, x10, x11, x14, x15, x16, hno ho, reduceIte, reduceCtorEq, Nat.reduceEqDiff, Nat.reduceAdd, Int.reduceLT, Int.reduceLE, Int.reduceNeg, Int.reduceEq, Nat.reduceLT, Nat.reduceSub, Nat.reduceMul, Nat.reduceBEq, Nat.reduceLeDiff, Int.reduceBEq, Int.reduceBNe, Int.reduceToNat, ne_eq, implies_true, bA]
                              · have x16 := decide_eq_false w16
                                have ho : spaceB l[i] = true := spaceB_iff.2 ⟨by omega, by omega, by omega, by omega⟩
                                by_cases h0 : 0 < i
                                · have d2 : decide ((0 : Int) < (i : Int)) = true := by simpa using h0
                                  obtain ⟨k, rfl⟩ : ∃ k, i = k + 1 := ⟨i - 1, by omega⟩
                                  have hk : k < l.length := by omega
                                  have e2 : IntKind.i64.wrap (((k + 1 : Nat) : Int) - 1) = (k : Int) := by rw [wrapI (by omega) (by omega)]; omega
                                  by_cases hl : l[k].id < l[k + 1].id
                                  · have d3 : decide (l[k + 1].id ≤ l[k].id) = false := by simp; omega
                                    simp (config := {maxSteps := 4000000}) only [U_ref12_May, d, x5, x6, x7, x8, x9, x10, x11, x14, x15, x16, d2, d3, e2, islV_map (g := rowSp) h (rowSp_len _), islV_map (g := rowSp) hk (rowSp_len _), rowSp, e1, reduceIte, reduceCtorEq, Nat.reduceEqDiff, Nat.reduceAdd, Int.reduceLT, Int.reduceLE, Int.reduceNeg, Int.reduceEq, Nat.reduceLT, Nat.reduceSub, Nat.reduceMul, Nat.reduceBEq, Nat.reduceLeDiff, Int.reduceBEq, Int.reduceBNe, Int.reduceToNat, ne_eq, implies_true, bA]
                                    refine ⟨k + 1 + 1, rfl, ⟨by omega, hgo ho, fun j hj hlt => ?_⟩, by omega⟩
                                    by_cases e : j = k
                                    · subst e; simpa [riseB] using hl
                                    · exact h2 j hj (by omega)
                                  · have d3 : decide (l[k + 1].id ≤ l[k].id) = true := by simp; omega
                                    have hr : mayR g l = false := by rw [mayR, lkB_no2 h (by simpa [riseB] using hl)]; simp
                                    simp (config := {maxSteps := 4000000}) only [U_ref12_May, d, x5, x6, x7, x8, x9, x10, x11, x14, x15, x16, d2, d3, e2, islV_map (g := rowSp) h (rowSp_len _), islV_map (g := rowSp) hk (rowSp_len _), rowSp, hr, reduceIte, reduceCtorEq, Nat.reduceEqDiff, Nat.reduceAdd, Int.reduceLT, Int.reduceLE, Int.reduceNeg, Int.reduceEq, Nat.reduceLT, Nat.reduceSub, Nat.reduceMul, Nat.reduceBEq, Nat.reduceLeDiff, Int.reduceBEq, Int.reduceBNe, Int.reduceToNat, ne_eq, implies_true, bA]
                                · have d2 : decide ((0 : Int) < (i : Int)) = false := by simpa using h0
                                  simp (config := {maxSteps := 4000000}) only [U_ref12_May, d, x5, x6, x7, x8, x9, x10, x11, x14, x15, x16, d2, islV_map (g := rowSp) h (rowSp_len _), rowSp, e1, reduceIte, reduceCtorEq, Nat.reduceEqDiff, Nat.reduceAdd, Int.reduceLT, Int.reduceLE, Int.reduceNeg, Int.reduceEq, Nat.reduceLT, Nat.reduceSub, Nat.reduceMul, Nat.reduceBEq, Nat.reduceLeDiff, Int.reduceBEq, Int.reduceBNe, Int.reduceToNat, ne_eq, implies_true, bA]
                                  exact ⟨i + 1, rfl, ⟨by omega, hgo ho, fun j hj hlt => absurd hlt (by omega)⟩, by omega⟩
                          · have x14 := decide_eq_false w14
                            omega
          · have d : decide ((i : Int) < (l.length : Int)) = false := by simpa using h
            have hr : mayR g l = true := mayR_iff.2 ⟨inL_iff.1 hg, hlen, lkB_at.2 ⟨fun j hj => h1 j hj (by omega), fun j hj => h2 j hj (by omega)⟩⟩
            simp (config := {maxSteps := 4000000}) only [U_ref12_May, d, hr, reduceIte, reduceCtorEq, Nat.reduceEqDiff, Nat.reduceAdd, Int.reduceLT, Int.reduceLE, Int.reduceNeg, Int.reduceEq, Nat.reduceLT, Nat.reduceSub, Nat.reduceMul, Nat.reduceBEq, Nat.reduceLeDiff, Int.reduceBEq, Int.reduceBNe, Int.reduceToNat, ne_eq, implies_true, bA]
      · have d0 : decide ((8 : Int) < (l.length : Int)) = true := by simp; omega
        have hr : mayR g l = false := by simp [mayR, hlen]
        simp (config := {maxSteps := 4000000}) only [U_ref12_May, d1, d2, d0, hr, reduceIte, reduceCtorEq, Nat.reduceEqDiff, Nat.reduceAdd, Int.reduceLT, Int.reduceLE, Int.reduceNeg, Int.reduceEq, Nat.reduceLT, Nat.reduceSub, Nat.reduceMul, Nat.reduceBEq, Nat.reduceLeDiff, Int.reduceBEq, Int.reduceBNe, Int.reduceToNat, ne_eq, implies_true, bA]
end Go.Proofs.Ytklniadgdbjcpaa.Aw
