/-
  What the functions of the package 'ext' compute: extents alone, and what the document's say of them.
-/
import Derived.Test.YtlkpceacmfndlaaCode
import Derived.Test.YtlkpceacmfndlaaMExt4
set_option linter.unusedSimpArgs false
set_option linter.unusedVariables false
namespace Go.Proofs.Ytlkpceacmfndlaa.Aw
open Go.RowKit

abbrev pE (e : Xt) : PV := .agg (rowE e)
theorem ownL_rowE (e : Xt) : ownL (rowE e) = false := by simp [rowE, ownL, PV.own?]

theorem span_spec (f n : Int) : PCall Try.prog 67 [.int .i64 f, .int .i64 n] (.bool (spanS f n)) := by
  refine pcall_go Try.func67 comp_ext_span ?_
  by_cases h1 : 0 ≤ f
  · have d1 := decide_eq_true h1
    by_cases h2 : 0 ≤ n
    · have d2 := decide_eq_true h2
      by_cases h3 : f ≤ 16777216
      · have d3 := decide_eq_true h3
        have e : IntKind.i64.wrap (16777216 - f) = 16777216 - f := wrapI (by omega) (by omega)
        simp (config := {maxSteps := 4000000}) only [U_ext_span, d1, d2, d3, e, reduceIte, reduceCtorEq, Nat.reduceEqDiff, Nat.reduceAdd, Int.reduceLT, Int.reduceLE, Int.reduceNeg, Int.reduceEq, Nat.reduceLT, Nat.reduceSub, Nat.reduceMul, Nat.reduceBEq, Nat.reduceLeDiff, Int.reduceBEq, Int.reduceBNe, Int.reduceToNat, ne_eq, implies_true, bA]
        simp [spanS, h1, h2, h3]
      · have d3 := decide_eq_false h3
        simp (config := {maxSteps := 4000000}) only [U_ext_span, d1, d2, d3, reduceIte, reduceCtorEq, Nat.reduceEqDiff, Nat.reduceAdd, Int.reduceLT, Int.reduceLE, Int.reduceNeg, Int.reduceEq, Nat.reduceLT, Nat.reduceSub, Nat.reduceMul, Nat.reduceBEq, Nat.reduceLeDiff, Int.reduceBEq, Int.reduceBNe, Int.reduceToNat, ne_eq, implies_true, bA]
        simp [spanS, h1, h2, h3]
    · have d2 := decide_eq_false h2
      simp (config := {maxSteps := 4000000}) only [U_ext_span, d1, d2, reduceIte, reduceCtorEq, Nat.reduceEqDiff, Nat.reduceAdd, Int.reduceLT, Int.reduceLE, Int.reduceNeg, Int.reduceEq, Nat.reduceLT, Nat.reduceSub, Nat.reduceMul, Nat.reduceBEq, Nat.reduceLeDiff, Int.reduceBEq, Int.reduceBNe, Int.reduceToNat, ne_eq, implies_true, bA]
      simp [spanS, h1, h2]
  · have d1 := decide_eq_false h1
    simp (config := {maxSteps := 4000000}) only [U_ext_span, d1, reduceIte, reduceCtorEq, Nat.reduceEqDiff, Nat.reduceAdd, Int.reduceLT, Int.reduceLE, Int.reduceNeg, Int.reduceEq, Nat.reduceLT, Nat.reduceSub, Nat.reduceMul, Nat.reduceBEq, Nat.reduceLeDiff, Int.reduceBEq, Int.reduceBNe, Int.reduceToNat, ne_eq, implies_true, bA]
    simp [spanS, h1]
theorem range_spec (f n : Int) : PCall Try.prog 71 [.int .i64 f, .int .i64 n] (.bool (spanS f n)) := by
  refine pcall_go Try.func71 comp_ref07_Range ?_
  by_cases h1 : 0 ≤ f
  · have d1 := decide_eq_true h1
    by_cases h3 : f ≤ 16777216
    · have d3 := decide_eq_true h3
      by_cases h2 : 0 ≤ n
      · have d2 := decide_eq_true h2
        have e : IntKind.i64.wrap (16777216 - f) = 16777216 - f := wrapI (by omega) (by omega)
        simp (config := {maxSteps := 4000000}) only [U_ref07_Range, d1, d2, d3, e, reduceIte, reduceCtorEq, Nat.reduceEqDiff, Nat.reduceAdd, Int.reduceLT, Int.reduceLE, Int.reduceNeg, Int.reduceEq, Nat.reduceLT, Nat.reduceSub, Nat.reduceMul, Nat.reduceBEq, Nat.reduceLeDiff, Int.reduceBEq, Int.reduceBNe, Int.reduceToNat, ne_eq, implies_true, bA]
        simp [spanS, h1, h2, h3]
      · have d2 := decide_eq_false h2
        simp (config := {maxSteps := 4000000}) only [U_ref07_Range, d1, d2, d3, reduceIte, reduceCtorEq, Nat.reduceEqDiff, Nat.reduceAdd, Int.reduceLT, Int.reduceLE, Int.reduceNeg, Int.reduceEq, Nat.reduceLT, Nat.reduceSub, Nat.reduceMul, Nat.reduceBEq, Nat.reduceLeDiff, Int.reduceBEq, Int.reduceBNe, Int.reduceToNat, ne_eq, implies_true, bA]
        simp [spanS, h1, h2, h3]
    · have d3 := decide_eq_false h3
      simp (config := {maxSteps := 4000000}) only [U_ref07_Range, d1, d3, reduceIte, reduceCtorEq, Nat.reduceEqDiff, Nat.reduceAdd, Int.reduceLT, Int.reduceLE, Int.reduceNeg, Int.reduceEq, Nat.reduceLT, Nat.reduceSub, Nat.reduceMul, Nat.reduceBEq, Nat.reduceLeDiff, Int.reduceBEq, Int.reduceBNe, Int.reduceToNat, ne_eq, implies_true, bA]
      simp [spanS, h1, h3]
  · have d1 := decide_eq_false h1
    simp (config := {maxSteps := 4000000}) only [U_ref07_Range, d1, reduceIte, reduceCtorEq, Nat.reduceEqDiff, Nat.reduceAdd, Int.reduceLT, Int.reduceLE, Int.reduceNeg, Int.reduceEq, Nat.reduceLT, Nat.reduceSub, Nat.reduceMul, Nat.reduceBEq, Nat.reduceLeDiff, Int.reduceBEq, Int.reduceBNe, Int.reduceToNat, ne_eq, implies_true, bA]
    simp [spanS, h1]
theorem spanS_iff {f n : Int} : spanS f n = true ↔ SpanP f n := by simp [spanS, SpanP]

theorem one_spec (e : Xt) : PCall Try.prog 52 [pE e] (.bool (decide (OneP e))) := by
  refine pcall_go Try.func52 comp_ext_One ?_
  simp (config := {maxSteps := 4000000}) only [U_ext_One, rowE, reduceIte, reduceCtorEq, Nat.reduceEqDiff, Nat.reduceAdd, Int.reduceLT, Int.reduceLE, Int.reduceNeg, Int.reduceEq, Nat.reduceLT, Nat.reduceSub, Nat.reduceMul, Nat.reduceBEq, Nat.reduceLeDiff, Int.reduceBEq, Int.reduceBNe, Int.reduceToNat, ne_eq, implies_true, bA]
  refine callI (span_spec e.fr e.n) ?_
  by_cases hs : spanS e.fr e.n = true
  · have hs' := spanS_iff.1 hs
    by_cases h1 : e.n < 1
    · have d1 := decide_eq_true h1
      have hn : ¬ OneP e := fun h => by have := h.2.1; omega
      simp (config := {maxSteps := 4000000}) only [U_ext_One, rowE, hs, d1, reduceIte, reduceCtorEq, Nat.reduceEqDiff, Nat.reduceAdd, Int.reduceLT, Int.reduceLE, Int.reduceNeg, Int.reduceEq, Nat.reduceLT, Nat.reduceSub, Nat.reduceMul, Nat.reduceBEq, Nat.reduceLeDiff, Int.reduceBEq, Int.reduceBNe, Int.reduceToNat, ne_eq, implies_true, bA]
      simp [hn]
    · have d1 := decide_eq_false h1
      by_cases h2 : e.kd = 1
      · have d2 : (e.kd == 1) = true := beq_iff_eq.2 h2
        simp (config := {maxSteps := 4000000}) only [U_ext_One, rowE, hs, d1, d2, reduceIte, reduceCtorEq, Nat.reduceEqDiff, Nat.reduceAdd, Int.reduceLT, Int.reduceLE, Int.reduceNeg, Int.reduceEq, Nat.reduceLT, Nat.reduceSub, Nat.reduceMul, Nat.reduceBEq, Nat.reduceLeDiff, Int.reduceBEq, Int.reduceBNe, Int.reduceToNat, ne_eq, implies_true, bA]
        have : (e.at_ == 0) = decide (OneP e) := by
          rw [Bool.eq_iff_iff, beq_iff_eq, decide_eq_true_eq]; unfold OneP
          obtain ⟨a, b, c, d⟩ := hs'
          constructor
          · intro h; exact ⟨a, by omega, c, d, .inl ⟨h2, h⟩⟩
          · intro h; omega
        simp [this]
      · have d2 : (e.kd == 1) = false := beq_eq_false_iff_ne.2 h2
        by_cases h3 : e.kd = 2
        · have d3 : (e.kd == 2) = true := beq_iff_eq.2 h3
          by_cases h4 : 0 ≤ e.at_
          · have d4 := decide_eq_true h4
            by_cases h5 : e.at_ ≤ 2048
            · have d5 := decide_eq_true h5
              have e1 : IntKind.i64.wrap (2048 - e.at_) = 2048 - e.at_ := wrapI (by omega) (by omega)
              simp (config := {maxSteps := 4000000}) only [U_ext_One, rowE, hs, d1, d2, d3, d4, d5, e1, reduceIte, reduceCtorEq, Nat.reduceEqDiff, Nat.reduceAdd, Int.reduceLT, Int.reduceLE, Int.reduceNeg, Int.reduceEq, Nat.reduceLT, Nat.reduceSub, Nat.reduceMul, Nat.reduceBEq, Nat.reduceLeDiff, Int.reduceBEq, Int.reduceBNe, Int.reduceToNat, ne_eq, implies_true, bA]
              have : decide (e.n ≤ 2048 - e.at_) = decide (OneP e) := by
                rw [Bool.eq_iff_iff, decide_eq_true_eq, decide_eq_true_eq]; unfold OneP
                obtain ⟨a, b, c, d⟩ := hs'
                constructor
                · intro h; exact ⟨a, by omega, c, d, .inr ⟨h3, h4, h5, h⟩⟩
                · intro h; omega
              simp [this]
            · have d5 := decide_eq_false h5
              have hn : ¬ OneP e := fun h => by have := h.2.2.2.2; omega
              simp (config := {maxSteps := 4000000}) only [U_ext_One, rowE, hs, d1, d2, d3, d4, d5, reduceIte, reduceCtorEq, Nat.reduceEqDiff, Nat.reduceAdd, Int.reduceLT, Int.reduceLE, Int.reduceNeg, Int.reduceEq, Nat.reduceLT, Nat.reduceSub, Nat.reduceMul, Nat.reduceBEq, Nat.reduceLeDiff, Int.reduceBEq, Int.reduceBNe, Int.reduceToNat, ne_eq, implies_true, bA]
              simp [hn]
          · have d4 := decide_eq_false h4
            have hn : ¬ OneP e := fun h => by have := h.2.2.2.2; omega
            simp (config := {maxSteps := 4000000}) only [U_ext_One, rowE, hs, d1, d2, d3, d4, reduceIte, reduceCtorEq, Nat.reduceEqDiff, Nat.reduceAdd, Int.reduceLT, Int.reduceLE, Int.reduceNeg, Int.reduceEq, Nat.reduceLT, Nat.reduceSub, Nat.reduceMul, Nat.reduceBEq, Nat.reduceLeDiff, Int.reduceBEq, Int.reduceBNe, Int.reduceToNat, ne_eq, implies_true, bA]
            simp [hn]
        · have d3 : (e.kd == 2) = false := beq_eq_false_iff_ne.2 h3
          have hn : ¬ OneP e := fun h => by have := h.2.2.2.2; omega
          simp (config := {maxSteps := 4000000}) only [U_ext_One, rowE, hs, d1, d2, d3, reduceIte, reduceCtorEq, Nat.reduceEqDiff, Nat.reduceAdd, Int.reduceLT, Int.reduceLE, Int.reduceNeg, Int.reduceEq, Nat.reduceLT, Nat.reduceSub, Nat.reduceMul, Nat.reduceBEq, Nat.reduceLeDiff, Int.reduceBEq, Int.reduceBNe, Int.reduceToNat, ne_eq, implies_true, bA]
          simp [hn]
  · simp only [Bool.not_eq_true] at hs
    have hn : ¬ OneP e := fun h => by
      have : spanS e.fr e.n = true := spanS_iff.2 ⟨h.1, by have := h.2.1; omega, h.2.2.1, h.2.2.2.1⟩
      rw [hs] at this; cases this
    simp (config := {maxSteps := 4000000}) only [U_ext_One, rowE, hs, reduceIte, reduceCtorEq, Nat.reduceEqDiff, Nat.reduceAdd, Int.reduceLT, Int.reduceLE, Int.reduceNeg, Int.reduceEq, Nat.reduceLT, Nat.reduceSub, Nat.reduceMul, Nat.reduceBEq, Nat.reduceLeDiff, Int.reduceBEq, Int.reduceBNe, Int.reduceToNat, ne_eq, implies_true, bA]
    simp [hn]
theorem rone_spec (e : Xt) : PCall Try.prog 62 [pE e] (.bool (decide (OneP e))) := by
  refine pcall_go Try.func62 comp_ref07_One ?_
  simp (config := {maxSteps := 4000000}) only [U_ref07_One, rowE, reduceIte, reduceCtorEq, Nat.reduceEqDiff, Nat.reduceAdd, Int.reduceLT, Int.reduceLE, Int.reduceNeg, Int.reduceEq, Nat.reduceLT, Nat.reduceSub, Nat.reduceMul, Nat.reduceBEq, Nat.reduceLeDiff, Int.reduceBEq, Int.reduceBNe, Int.reduceToNat, ne_eq, implies_true, bA]
  refine callI (range_spec e.fr e.n) ?_
  by_cases hs : spanS e.fr e.n = true
  · have hs' := spanS_iff.1 hs
    by_cases h1 : e.n = 0
    · have d1 : (e.n == 0) = true := beq_iff_eq.2 h1
      have hn : ¬ OneP e := fun h => by have := h.2.1; omega
      simp (config := {maxSteps := 4000000}) only [U_ref07_One, rowE, hs, d1, reduceIte, reduceCtorEq, Nat.reduceEqDiff, Nat.reduceAdd, Int.reduceLT, Int.reduceLE, Int.reduceNeg, Int.reduceEq, Nat.reduceLT, Nat.reduceSub, Nat.reduceMul, Nat.reduceBEq, Nat.reduceLeDiff, Int.reduceBEq, Int.reduceBNe, Int.reduceToNat, ne_eq, implies_true, bA]
      simp [hn]
    · have d1 : (e.n == 0) = false := beq_eq_false_iff_ne.2 h1
      by_cases h2 : e.kd = 1
      · have d2 : (e.kd == 1) = true := beq_iff_eq.2 h2
        simp (config := {maxSteps := 4000000}) only [U_ref07_One, rowE, hs, d1, d2, reduceIte, reduceCtorEq, Nat.reduceEqDiff, Nat.reduceAdd, Int.reduceLT, Int.reduceLE, Int.reduceNeg, Int.reduceEq, Nat.reduceLT, Nat.reduceSub, Nat.reduceMul, Nat.reduceBEq, Nat.reduceLeDiff, Int.reduceBEq, Int.reduceBNe, Int.reduceToNat, ne_eq, implies_true, bA]
        have : (e.at_ == 0) = decide (OneP e) := by
          rw [Bool.eq_iff_iff, beq_iff_eq, decide_eq_true_eq]; unfold OneP
          obtain ⟨a, b, c, d⟩ := hs'
          constructor
          · intro h; exact ⟨a, by omega, c, d, .inl ⟨h2, h⟩⟩
          · intro h; omega
        simp [this]
      · have d2 : (e.kd == 1) = false := beq_eq_false_iff_ne.2 h2
        by_cases h3 : e.kd = 2
        · have d3 : (e.kd == 2) = true := beq_iff_eq.2 h3
          by_cases h4 : 0 ≤ e.at_
          · have d4 := decide_eq_true h4
            by_cases h5 : e.at_ ≤ 2048
            · have d5 := decide_eq_true h5
              have e1 : IntKind.i64.wrap (2048 - e.at_) = 2048 - e.at_ := wrapI (by omega) (by omega)
              simp (config := {maxSteps := 4000000}) only [U_ref07_One, rowE, hs, d1, d2, d3, d4, d5, e1, reduceIte, reduceCtorEq, Nat.reduceEqDiff, Nat.reduceAdd, Int.reduceLT, Int.reduceLE, Int.reduceNeg, Int.reduceEq, Nat.reduceLT, Nat.reduceSub, Nat.reduceMul, Nat.reduceBEq, Nat.reduceLeDiff, Int.reduceBEq, Int.reduceBNe, Int.reduceToNat, ne_eq, implies_true, bA]
              have : decide (e.n ≤ 2048 - e.at_) = decide (OneP e) := by
                rw [Bool.eq_iff_iff, decide_eq_true_eq, decide_eq_true_eq]; unfold OneP
                obtain ⟨a, b, c, d⟩ := hs'
                constructor
                · intro h; exact ⟨a, by omega, c, d, .inr ⟨h3, h4, h5, h⟩⟩
                · intro h; omega
              simp [this]
            · have d5 := decide_eq_false h5
              have hn : ¬ OneP e := fun h => by have := h.2.2.2.2; omega
              simp (config := {maxSteps := 4000000}) only [U_ref07_One, rowE, hs, d1, d2, d3, d4, d5, reduceIte, reduceCtorEq, Nat.reduceEqDiff, Nat.reduceAdd, Int.reduceLT, Int.reduceLE, Int.reduceNeg, Int.reduceEq, Nat.reduceLT, Nat.reduceSub, Nat.reduceMul, Nat.reduceBEq, Nat.reduceLeDiff, Int.reduceBEq, Int.reduceBNe, Int.reduceToNat, ne_eq, implies_true, bA]
              simp [hn]
          · have d4 := decide_eq_false h4
            have hn : ¬ OneP e := fun h => by have := h.2.2.2.2; omega
            simp (config := {maxSteps := 4000000}) only [U_ref07_One, rowE, hs, d1, d2, d3, d4, reduceIte, reduceCtorEq, Nat.reduceEqDiff, Nat.reduceAdd, Int.reduceLT, Int.reduceLE, Int.reduceNeg, Int.reduceEq, Nat.reduceLT, Nat.reduceSub, Nat.reduceMul, Nat.reduceBEq, Nat.reduceLeDiff, Int.reduceBEq, Int.reduceBNe, Int.reduceToNat, ne_eq, implies_true, bA]
            simp [hn]
        · have d3 : (e.kd == 2) = false := beq_eq_false_iff_ne.2 h3
          have hn : ¬ OneP e := fun h => by have := h.2.2.2.2; omega
          simp (config := {maxSteps := 4000000}) only [U_ref07_One, rowE, hs, d1, d2, d3, reduceIte, reduceCtorEq, Nat.reduceEqDiff, Nat.reduceAdd, Int.reduceLT, Int.reduceLE, Int.reduceNeg, Int.reduceEq, Nat.reduceLT, Nat.reduceSub, Nat.reduceMul, Nat.reduceBEq, Nat.reduceLeDiff, Int.reduceBEq, Int.reduceBNe, Int.reduceToNat, ne_eq, implies_true, bA]
          simp [hn]
  · simp only [Bool.not_eq_true] at hs
    have hn : ¬ OneP e := fun h => by
      have : spanS e.fr e.n = true := spanS_iff.2 ⟨h.1, by have := h.2.1; omega, h.2.2.1, h.2.2.2.1⟩
      rw [hs] at this; cases this
    simp (config := {maxSteps := 4000000}) only [U_ref07_One, rowE, hs, reduceIte, reduceCtorEq, Nat.reduceEqDiff, Nat.reduceAdd, Int.reduceLT, Int.reduceLE, Int.reduceNeg, Int.reduceEq, Nat.reduceLT, Nat.reduceSub, Nat.reduceMul, Nat.reduceBEq, Nat.reduceLeDiff, Int.reduceBEq, Int.reduceBNe, Int.reduceToNat, ne_eq, implies_true, bA]
    simp [hn]

theorem end_spec (e : Xt) (he : OneP e) : PCall Try.prog 53 [pE e] (.int .i64 (endE e)) := by
  refine pcall_go Try.func53 comp_ext_end ?_
  obtain ⟨a, b, c, d, _⟩ := he
  have e1 : IntKind.i64.wrap (e.fr + e.n) = endE e := wrapI (by omega) (by omega)
  simp (config := {maxSteps := 4000000}) only [U_ext_end, rowE, e1, reduceIte, reduceCtorEq, Nat.reduceEqDiff, Nat.reduceAdd, Int.reduceLT, Int.reduceLE, Int.reduceNeg, Int.reduceEq, Nat.reduceLT, Nat.reduceSub, Nat.reduceMul, Nat.reduceBEq, Nat.reduceLeDiff, Int.reduceBEq, Int.reduceBNe, Int.reduceToNat, ne_eq, implies_true, bA]
theorem together_spec (a b : Xt) (ha : OneP a) : PCall Try.prog 54 [pE a, pE b] (.bool (decide (TogP a b))) := by
  refine pcall_go Try.func54 comp_ext_together ?_
  simp (config := {maxSteps := 4000000}) only [U_ext_together, rowE, reduceIte, reduceCtorEq, Nat.reduceEqDiff, Nat.reduceAdd, Int.reduceLT, Int.reduceLE, Int.reduceNeg, Int.reduceEq, Nat.reduceLT, Nat.reduceSub, Nat.reduceMul, Nat.reduceBEq, Nat.reduceLeDiff, Int.reduceBEq, Int.reduceBNe, Int.reduceToNat, ne_eq, implies_true, bA]
  refine callI (end_spec a ha) ?_
  obtain ⟨h1, h2, h3, h4, h5⟩ := ha
  by_cases hk : a.kd = 2
  · have d1 : (a.kd == 2) = true := beq_iff_eq.2 hk
    have e1 : IntKind.i64.wrap (a.at_ + a.n) = a.at_ + a.n := wrapI (by omega) (by omega)
    simp (config := {maxSteps := 4000000}) only [U_ext_together, rowE, d1, e1, reduceIte, reduceCtorEq, Nat.reduceEqDiff, Nat.reduceAdd, Int.reduceLT, Int.reduceLE, Int.reduceNeg, Int.reduceEq, Nat.reduceLT, Nat.reduceSub, Nat.reduceMul, Nat.reduceBEq, Nat.reduceLeDiff, Int.reduceBEq, Int.reduceBNe, Int.reduceToNat, ne_eq, implies_true, bA]
    congr 2
    rw [Bool.eq_iff_iff, decide_eq_true_eq]
    simp only [Bool.and_eq_true, beq_iff_eq, TogP, endE, hk, if_true]
    omega
  · have d1 : (a.kd == 2) = false := beq_eq_false_iff_ne.2 hk
    simp (config := {maxSteps := 4000000}) only [U_ext_together, rowE, d1, reduceIte, reduceCtorEq, Nat.reduceEqDiff, Nat.reduceAdd, Int.reduceLT, Int.reduceLE, Int.reduceNeg, Int.reduceEq, Nat.reduceLT, Nat.reduceSub, Nat.reduceMul, Nat.reduceBEq, Nat.reduceLeDiff, Int.reduceBEq, Int.reduceBNe, Int.reduceToNat, ne_eq, implies_true, bA]
    congr 2
    rw [Bool.eq_iff_iff, decide_eq_true_eq]
    simp only [Bool.and_eq_true, beq_iff_eq, TogP, endE, hk, if_false]
    omega
theorem rtogether_spec (a b : Xt) (ha : OneP a) (hb : OneP b) : PCall Try.prog 63 [pE a, pE b] (.bool (decide (TogP a b))) := by
  refine pcall_go Try.func63 comp_ref07_together ?_
  obtain ⟨h1, h2, h3, h4, h5⟩ := ha
  obtain ⟨k1, k2, k3, k4, k5⟩ := hb
  have e1 : IntKind.i64.wrap (a.fr + a.n) = a.fr + a.n := wrapI (by omega) (by omega)
  have e2 : IntKind.i64.wrap (a.at_ + a.n) = a.at_ + a.n := wrapI (by omega) (by omega)
  by_cases p1 : b.fr = a.fr + a.n
  · have d1 : (b.fr != a.fr + a.n) = false := by simpa using p1
    by_cases p2 : a.kd = b.kd
    · have d2 : (a.kd != b.kd) = false := by simpa using p2
      by_cases p3 : a.kd = 1
      · have d3 : (a.kd == 1) = true := beq_iff_eq.2 p3
        simp (config := {maxSteps := 4000000}) only [U_ref07_together, rowE, e1, d1, d2, d3, reduceIte, reduceCtorEq, Nat.reduceEqDiff, Nat.reduceAdd, Int.reduceLT, Int.reduceLE, Int.reduceNeg, Int.reduceEq, Nat.reduceLT, Nat.reduceSub, Nat.reduceMul, Nat.reduceBEq, Nat.reduceLeDiff, Int.reduceBEq, Int.reduceBNe, Int.reduceToNat, ne_eq, implies_true, bA]
        have : TogP a b := ⟨p1, p2.symm, by rw [if_neg (by omega)]; omega⟩
        simp [this]
      · have d3 : (a.kd == 1) = false := beq_eq_false_iff_ne.2 p3
        simp (config := {maxSteps := 4000000}) only [U_ref07_together, rowE, e1, e2, d1, d2, d3, reduceIte, reduceCtorEq, Nat.reduceEqDiff, Nat.reduceAdd, Int.reduceLT, Int.reduceLE, Int.reduceNeg, Int.reduceEq, Nat.reduceLT, Nat.reduceSub, Nat.reduceMul, Nat.reduceBEq, Nat.reduceLeDiff, Int.reduceBEq, Int.reduceBNe, Int.reduceToNat, ne_eq, implies_true, bA]
        congr 2
        rw [Bool.eq_iff_iff, decide_eq_true_eq, beq_iff_eq]
        have hk : a.kd = 2 := by omega
        simp only [TogP, hk, if_true]
        omega
    · have d2 : (a.kd != b.kd) = true := by simpa using p2
      simp (config := {maxSteps := 4000000}) only [U_ref07_together, rowE, e1, d1, d2, reduceIte, reduceCtorEq, Nat.reduceEqDiff, Nat.reduceAdd, Int.reduceLT, Int.reduceLE, Int.reduceNeg, Int.reduceEq, Nat.reduceLT, Nat.reduceSub, Nat.reduceMul, Nat.reduceBEq, Nat.reduceLeDiff, Int.reduceBEq, Int.reduceBNe, Int.reduceToNat, ne_eq, implies_true, bA]
      have : ¬ TogP a b := fun h => p2 h.2.1.symm
      simp [this]
  · have d1 : (b.fr != a.fr + a.n) = true := by simpa using p1
    simp (config := {maxSteps := 4000000}) only [U_ref07_together, rowE, e1, d1, reduceIte, reduceCtorEq, Nat.reduceEqDiff, Nat.reduceAdd, Int.reduceLT, Int.reduceLE, Int.reduceNeg, Int.reduceEq, Nat.reduceLT, Nat.reduceSub, Nat.reduceMul, Nat.reduceBEq, Nat.reduceLeDiff, Int.reduceBEq, Int.reduceBNe, Int.reduceToNat, ne_eq, implies_true, bA]
    have : ¬ TogP a b := fun h => p1 h.1
    simp [this]

/-- What two have together. -/
def joinS (a b : Xt) : Xt × Bool := if OneP a ∧ OneP b ∧ TogP a b then ({ a with n := a.n + b.n }, true) else (⟨0, 0, 0, 0⟩, false)
theorem check_spec (l : List Xt) (hm : l.length ≤ 9223372036854775807) : PCall Try.prog 41 [.slc (l.map rowE)] (.bool (okB l)) := by
  refine pcall_go Try.func41 comp_ext_Check ?_
  simp (config := {maxSteps := 4000000}) only [U_ext_Check, reduceIte, reduceCtorEq, Nat.reduceEqDiff, Nat.reduceAdd, Int.reduceLT, Int.reduceLE, Int.reduceNeg, Int.reduceEq, Nat.reduceLT, Nat.reduceSub, Nat.reduceMul, Nat.reduceBEq, Nat.reduceLeDiff, Int.reduceBEq, Int.reduceBNe, Int.reduceToNat, ne_eq, implies_true, bA]
  refine loopF (fun i : Nat => ⟨ofL [(0, .slc (l.map rowE)), (5, .slc (l.map rowE)), (6, .int .i64 l.length), (7, .int .i64 i)], []⟩)
    (fun i => i ≤ l.length ∧ (∀ j (h : j < l.length), j < i → OneP l[j]) ∧ ∀ j (h : j + 1 < l.length), j + 1 < i → LinkP l[j] l[j + 1]) (fun i => l.length - i) 0 ?_ ⟨Nat.zero_le _, fun j _ h => absurd h (by omega), fun j _ h => absurd h (by omega)⟩ ?_
  · simp (config := {maxSteps := 4000000}) only [U_ext_Check, reduceIte, reduceCtorEq, Nat.reduceEqDiff, Nat.reduceAdd, Int.reduceLT, Int.reduceLE, Int.reduceNeg, Int.reduceEq, Nat.reduceLT, Nat.reduceSub, Nat.reduceMul, Nat.reduceBEq, Nat.reduceLeDiff, Int.reduceBEq, Int.reduceBNe, Int.reduceToNat, ne_eq, implies_true, bA]
    all_goals rfl
  · intro i ⟨hi, h1, h2⟩
    by_cases h : i < l.length
    · have d : decide ((i : Int) < (l.length : Int)) = true := by simpa using h
      have e1 : IntKind.i64.wrap ((i : Int) + 1) = ((i + 1 : Nat) : Int) := by rw [wrapI (by omega) (by omega)]; omega
      simp (config := {maxSteps := 4000000}) only [U_ext_Check, d, islV_map (g := rowE) h (rowE_len _), rowE, reduceIte, reduceCtorEq, Nat.reduceEqDiff, Nat.reduceAdd, Int.reduceLT, Int.reduceLE, Int.reduceNeg, Int.reduceEq, Nat.reduceLT, Nat.reduceSub, Nat.reduceMul, Nat.reduceBEq, Nat.reduceLeDiff, Int.reduceBEq, Int.reduceBNe, Int.reduceToNat, ne_eq, implies_true, bA]
      refine callI (one_spec l[i]) ?_
      by_cases ho : OneP l[i]
      · have d1 := decide_eq_true ho
        have h1' : ∀ j (h : j < l.length), j < i + 1 → OneP l[j] := fun j hj hlt => by
          by_cases e : j = i
          · subst e; exact ho
          · exact h1 j hj (by omega)
        by_cases h0 : 0 < i
        · have d2 : decide ((0 : Int) < (i : Int)) = true := by simpa using h0
          obtain ⟨k, rfl⟩ : ∃ k, i = k + 1 := ⟨i - 1, by omega⟩
          have hk : k < l.length := by omega
          have hok := h1 k hk (by omega)
          have e2 : IntKind.i64.wrap (((k + 1 : Nat) : Int) - 1) = (k : Int) := by rw [wrapI (by omega) (by omega)]; omega
          simp (config := {maxSteps := 4000000}) only [U_ext_Check, d1, d2, e2, islV_map (g := rowE) hk (rowE_len _), rowE, reduceIte, reduceCtorEq, Nat.reduceEqDiff, Nat.reduceAdd, Int.reduceLT, Int.reduceLE, Int.reduceNeg, Int.reduceEq, Nat.reduceLT, Nat.reduceSub, Nat.reduceMul, Nat.reduceBEq, Nat.reduceLeDiff, Int.reduceBEq, Int.reduceBNe, Int.reduceToNat, ne_eq, implies_true, bA]
          refine callI (end_spec l[k] hok) ?_
          by_cases hl : endE l[k] ≤ l[k + 1].fr
          · have d3 : decide (l[k + 1].fr < endE l[k]) = false := by simpa using hl
            simp (config := {maxSteps := 4000000}) only [U_ext_Check, d3, e2, islV_map (g := rowE) hk (rowE_len _), rowE, reduceIte, reduceCtorEq, Nat.reduceEqDiff, Nat.reduceAdd, Int.reduceLT, Int.reduceLE, Int.reduceNeg, Int.reduceEq, Nat.reduceLT, Nat.reduceSub, Nat.reduceMul, Nat.reduceBEq, Nat.reduceLeDiff, Int.reduceBEq, Int.reduceBNe, Int.reduceToNat, ne_eq, implies_true, bA]
            refine callI (together_spec l[k] l[k + 1] hok) ?_
            by_cases ht : TogP l[k] l[k + 1]
            · have d4 := decide_eq_true ht
              have hr : okB l = false := by
                cases hb : okB l with
                | false => rfl
                | true => exact absurd ht ((okB_at.1 hb).2 k h).2
              simp (config := {maxSteps := 4000000}) only [U_ext_Check, d4, hr, reduceIte, reduceCtorEq, Nat.reduceEqDiff, Nat.reduceAdd, Int.reduceLT, Int.reduceLE, Int.reduceNeg, Int.reduceEq, Nat.reduceLT, Nat.reduceSub, Nat.reduceMul, Nat.reduceBEq, Nat.reduceLeDiff, Int.reduceBEq, Int.reduceBNe, Int.reduceToNat, ne_eq, implies_true, bA]
            · have d4 := decide_eq_false ht
              simp (config := {maxSteps := 4000000}) only [U_ext_Check, d4, e1, reduceIte, reduceCtorEq, Nat.reduceEqDiff, Nat.reduceAdd, Int.reduceLT, Int.reduceLE, Int.reduceNeg, Int.reduceEq, Nat.reduceLT, Nat.reduceSub, Nat.reduceMul, Nat.reduceBEq, Nat.reduceLeDiff, Int.reduceBEq, Int.reduceBNe, Int.reduceToNat, ne_eq, implies_true, bA]
              refine ⟨k + 1 + 1, rfl, ⟨by omega, h1', fun j hj hlt => ?_⟩, by omega⟩
              by_cases e : j = k
              · subst e; exact ⟨hl, ht⟩
              · exact h2 j hj (by omega)
          · have d3 : decide (l[k + 1].fr < endE l[k]) = true := by simpa using hl
            have hr : okB l = false := by
              cases hb : okB l with
              | false => rfl
              | true => exact absurd ((okB_at.1 hb).2 k h).1 hl
            simp (config := {maxSteps := 4000000}) only [U_ext_Check, d3, hr, reduceIte, reduceCtorEq, Nat.reduceEqDiff, Nat.reduceAdd, Int.reduceLT, Int.reduceLE, Int.reduceNeg, Int.reduceEq, Nat.reduceLT, Nat.reduceSub, Nat.reduceMul, Nat.reduceBEq, Nat.reduceLeDiff, Int.reduceBEq, Int.reduceBNe, Int.reduceToNat, ne_eq, implies_true, bA]
        · have d2 : decide ((0 : Int) < (i : Int)) = false := by simpa using h0
          simp (config := {maxSteps := 4000000}) only [U_ext_Check, d1, d2, e1, reduceIte, reduceCtorEq, Nat.reduceEqDiff, Nat.reduceAdd, Int.reduceLT, Int.reduceLE, Int.reduceNeg, Int.reduceEq, Nat.reduceLT, Nat.reduceSub, Nat.reduceMul, Nat.reduceBEq, Nat.reduceLeDiff, Int.reduceBEq, Int.reduceBNe, Int.reduceToNat, ne_eq, implies_true, bA]
          exact ⟨i + 1, rfl, ⟨by omega, h1', fun j hj hlt => absurd hlt (by omega)⟩, by omega⟩
      · have d1 := decide_eq_false ho
        have hr : okB l = false := by
          cases hb : okB l with
          | false => rfl
          | true => exact absurd ((okB_at.1 hb).1 i h) ho
        simp (config := {maxSteps := 4000000}) only [U_ext_Check, d1, hr, reduceIte, reduceCtorEq, Nat.reduceEqDiff, Nat.reduceAdd, Int.reduceLT, Int.reduceLE, Int.reduceNeg, Int.reduceEq, Nat.reduceLT, Nat.reduceSub, Nat.reduceMul, Nat.reduceBEq, Nat.reduceLeDiff, Int.reduceBEq, Int.reduceBNe, Int.reduceToNat, ne_eq, implies_true, bA]
    · have d : decide ((i : Int) < (l.length : Int)) = false := by simpa using h
      have hr : okB l = true := okB_at.2 ⟨fun j hj => h1 j hj (by omega), fun j hj => h2 j hj (by omega)⟩
      simp (config := {maxSteps := 4000000}) only [U_ext_Check, d, hr, reduceIte, reduceCtorEq, Nat.reduceEqDiff, Nat.reduceAdd, Int.reduceLT, Int.reduceLE, Int.reduceNeg, Int.reduceEq, Nat.reduceLT, Nat.reduceSub, Nat.reduceMul, Nat.reduceBEq, Nat.reduceLeDiff, Int.reduceBEq, Int.reduceBNe, Int.reduceToNat, ne_eq, implies_true, bA]
theorem rcheck_spec (l : List Xt) (hm : l.length ≤ 9223372036854775807) : PCall Try.prog 45 [.slc (l.map rowE)] (.bool (okB l)) := by
  refine pcall_go Try.func45 comp_ref07_Check ?_
  simp (config := {maxSteps := 4000000}) only [U_ref07_Check, reduceIte, reduceCtorEq, Nat.reduceEqDiff, Nat.reduceAdd, Int.reduceLT, Int.reduceLE, Int.reduceNeg, Int.reduceEq, Nat.reduceLT, Nat.reduceSub, Nat.reduceMul, Nat.reduceBEq, Nat.reduceLeDiff, Int.reduceBEq, Int.reduceBNe, Int.reduceToNat, ne_eq, implies_true, bA]
  refine loopF (fun i : Nat => ⟨ofL [(0, .slc (l.map rowE)), (3, .int .i64 i)], []⟩)
    (fun i => i ≤ l.length ∧ (∀ j (h : j < l.length), j < i → OneP l[j]) ∧ ∀ j (h : j + 1 < l.length), j + 1 < i → LinkP l[j] l[j + 1]) (fun i => l.length - i) 0 ?_ ⟨Nat.zero_le _, fun j _ h => absurd h (by omega), fun j _ h => absurd h (by omega)⟩ ?_
  · simp (config := {maxSteps := 4000000}) only [U_ref07_Check, reduceIte, reduceCtorEq, Nat.reduceEqDiff, Nat.reduceAdd, Int.reduceLT, Int.reduceLE, Int.reduceNeg, Int.reduceEq, Nat.reduceLT, Nat.reduceSub, Nat.reduceMul, Nat.reduceBEq, Nat.reduceLeDiff, Int.reduceBEq, Int.reduceBNe, Int.reduceToNat, ne_eq, implies_true, bA]
    all_goals rfl
  · intro i ⟨hi, h1, h2⟩
    by_cases h : i < l.length
    · have d : decide ((i : Int) < (l.length : Int)) = true := by simpa using h
      have e1 : IntKind.i64.wrap ((i : Int) + 1) = ((i + 1 : Nat) : Int) := by rw [wrapI (by omega) (by omega)]; omega
      simp (config := {maxSteps := 4000000}) only [U_ref07_Check, d, islV_map (g := rowE) h (rowE_len _), rowE, reduceIte, reduceCtorEq, Nat.reduceEqDiff, Nat.reduceAdd, Int.reduceLT, Int.reduceLE, Int.reduceNeg, Int.reduceEq, Nat.reduceLT, Nat.reduceSub, Nat.reduceMul, Nat.reduceBEq, Nat.reduceLeDiff, Int.reduceBEq, Int.reduceBNe, Int.reduceToNat, ne_eq, implies_true, bA]
      refine callI (rone_spec l[i]) ?_
      by_cases ho : OneP l[i]
      · have d1 := decide_eq_true ho
        have h1' : ∀ j (h : j < l.length), j < i + 1 → OneP l[j] := fun j hj hlt => by
          by_cases e : j = i
          · subst e; exact ho
          · exact h1 j hj (by omega)
        by_cases h0 : 0 < i
        · have d2 : decide ((0 : Int) < (i : Int)) = true := by simpa using h0
          obtain ⟨k, rfl⟩ : ∃ k, i = k + 1 := ⟨i - 1, by omega⟩
          have hk : k < l.length := by omega
          have hok := h1 k hk (by omega)
          have e2 : IntKind.i64.wrap (((k + 1 : Nat) : Int) - 1) = (k : Int) := by rw [wrapI (by omega) (by omega)]; omega
          have e3 : IntKind.i64.wrap (l[k].fr + l[k].n) = l[k].fr + l[k].n := by
            have h1 := hok.1; have h2 := hok.2.1; have h3 := hok.2.2.1; have h4 := hok.2.2.2.1
            exact wrapI (by omega) (by omega)
          by_cases hl : endE l[k] ≤ l[k + 1].fr
          · have d3 : decide (l[k + 1].fr < l[k].fr + l[k].n) = false := by simpa [endE] using hl
            simp (config := {maxSteps := 4000000}) only [U_ref07_Check, d1, d2, d3, e2, e3, islV_map (g := rowE) h (rowE_len _), islV_map (g := rowE) hk (rowE_len _), rowE, reduceIte, reduceCtorEq, Nat.reduceEqDiff, Nat.reduceAdd, Int.reduceLT, Int.reduceLE, Int.reduceNeg, Int.reduceEq, Nat.reduceLT, Nat.reduceSub, Nat.reduceMul, Nat.reduceBEq, Nat.reduceLeDiff, Int.reduceBEq, Int.reduceBNe, Int.reduceToNat, ne_eq, implies_true, bA]
            refine callI (rtogether_spec l[k] l[k + 1] hok ho) ?_
            by_cases ht : TogP l[k] l[k + 1]
            · have d4 := decide_eq_true ht
              have hr : okB l = false := by
                cases hb : okB l with
                | false => rfl
                | true => exact absurd ht ((okB_at.1 hb).2 k h).2
              simp (config := {maxSteps := 4000000}) only [U_ref07_Check, d4, hr, reduceIte, reduceCtorEq, Nat.reduceEqDiff, Nat.reduceAdd, Int.reduceLT, Int.reduceLE, Int.reduceNeg, Int.reduceEq, Nat.reduceLT, Nat.reduceSub, Nat.reduceMul, Nat.reduceBEq, Nat.reduceLeDiff, Int.reduceBEq, Int.reduceBNe, Int.reduceToNat, ne_eq, implies_true, bA]
            · have d4 := decide_eq_false ht
              simp (config := {maxSteps := 4000000}) only [U_ref07_Check, d4, e1, reduceIte, reduceCtorEq, Nat.reduceEqDiff, Nat.reduceAdd, Int.reduceLT, Int.reduceLE, Int.reduceNeg, Int.reduceEq, Nat.reduceLT, Nat.reduceSub, Nat.reduceMul, Nat.reduceBEq, Nat.reduceLeDiff, Int.reduceBEq, Int.reduceBNe, Int.reduceToNat, ne_eq, implies_true, bA]
              refine ⟨k + 1 + 1, rfl, ⟨by omega, h1', fun j hj hlt => ?_⟩, by omega⟩
              by_cases e : j = k
              · subst e; exact ⟨hl, ht⟩
              · exact h2 j hj (by omega)
          · have d3 : decide (l[k + 1].fr < l[k].fr + l[k].n) = true := by simpa [endE] using hl
            have hr : okB l = false := by
              cases hb : okB l with
              | false => rfl
              | true => exact absurd ((okB_at.1 hb).2 k h).1 hl
            simp (config := {maxSteps := 4000000}) only [U_ref07_Check, d1, d2, d3, e2, e3, islV_map (g := rowE) h (rowE_len _), islV_map (g := rowE) hk (rowE_len _), rowE, hr, reduceIte, reduceCtorEq, Nat.reduceEqDiff, Nat.reduceAdd, Int.reduceLT, Int.reduceLE, Int.reduceNeg, Int.reduceEq, Nat.reduceLT, Nat.reduceSub, Nat.reduceMul, Nat.reduceBEq, Nat.reduceLeDiff, Int.reduceBEq, Int.reduceBNe, Int.reduceToNat, ne_eq, implies_true, bA]
        · have d2 : decide ((0 : Int) < (i : Int)) = false := by simpa using h0
          simp (config := {maxSteps := 4000000}) only [U_ref07_Check, d1, d2, e1, reduceIte, reduceCtorEq, Nat.reduceEqDiff, Nat.reduceAdd, Int.reduceLT, Int.reduceLE, Int.reduceNeg, Int.reduceEq, Nat.reduceLT, Nat.reduceSub, Nat.reduceMul, Nat.reduceBEq, Nat.reduceLeDiff, Int.reduceBEq, Int.reduceBNe, Int.reduceToNat, ne_eq, implies_true, bA]
          exact ⟨i + 1, rfl, ⟨by omega, h1', fun j hj hlt => absurd hlt (by omega)⟩, by omega⟩
      · have d1 := decide_eq_false ho
        have hr : okB l = false := by
          cases hb : okB l with
          | false => rfl
          | true => exact absurd ((okB_at.1 hb).1 i h) ho
        simp (config := {maxSteps := 4000000}) only [U_ref07_Check, d1, hr, reduceIte, reduceCtorEq, Nat.reduceEqDiff, Nat.reduceAdd, Int.reduceLT, Int.reduceLE, Int.reduceNeg, Int.reduceEq, Nat.reduceLT, Nat.reduceSub, Nat.reduceMul, Nat.reduceBEq, Nat.reduceLeDiff, Int.reduceBEq, Int.reduceBNe, Int.reduceToNat, ne_eq, implies_true, bA]
    · have d : decide ((i : Int) < (l.length : Int)) = false := by simpa using h
      have hr : okB l = true := okB_at.2 ⟨fun j hj => h1 j hj (by omega), fun j hj => h2 j hj (by omega)⟩
      simp (config := {maxSteps := 4000000}) only [U_ref07_Check, d, hr, reduceIte, reduceCtorEq, Nat.reduceEqDiff, Nat.reduceAdd, Int.reduceLT, Int.reduceLE, Int.reduceNeg, Int.reduceEq, Nat.reduceLT, Nat.reduceSub, Nat.reduceMul, Nat.reduceBEq, Nat.reduceLeDiff, Int.reduceBEq, Int.reduceBNe, Int.reduceToNat, ne_eq, implies_true, bA]
end Go.Proofs.Ytlkpceacmfndlaa.Aw
