/-
  What the functions of the package 'req' compute, and the document's: answers that may be; the document's requests; reading requests.
-/
import Derived.Test.YtoofeppepahpfaaPReq
set_option linter.unusedSimpArgs false
set_option linter.unusedVariables false
namespace Go.Proofs.Ytoofeppepahpfaa.Aw
open Go.RowKit

theorem ids_no {l : List Int} (h : lkB idB ltB l = false) : idsB l = false := by rw [idsB, h]; simp
theorem mayA_no {a : Rp} (h : lkB idB ltB a.ids = false) : mayA a = false := by rw [mayA, ids_no h]; simp
theorem ids_spec (l : List Int) (hl : l.length ≤ 1000) : PCall Try.prog 31 [.slc (rowsZ .i64 l)] (.bool (idsB l)) := by
  refine pcall_go Try.func31 comp_req_ids ?_
  simp (config := {maxSteps := 4000000}) only [U_req_ids, reduceIte, reduceCtorEq, Nat.reduceEqDiff, Nat.reduceAdd, Int.reduceLT, Int.reduceLE, Int.reduceNeg, Int.reduceEq, Nat.reduceLT, Nat.reduceSub, Nat.reduceMul, Nat.reduceBEq, Nat.reduceLeDiff, Int.reduceBEq, Int.reduceBNe, Int.reduceToNat, ne_eq, implies_true, bA]
  refine loopF (fun i : Nat => ⟨ofL [(0, .slc (rowsZ .i64 l)), (5, .slc (rowsZ .i64 l)), (6, .int .i64 l.length), (7, .int .i64 i)], []⟩)
    (fun i => i ≤ l.length ∧ (∀ j (h : j < l.length), j < i → idB l[j] = true) ∧ ∀ j (h : j + 1 < l.length), j + 1 < i → ltB l[j] l[j + 1] = true) (fun i => l.length - i) 0 ?_ ⟨Nat.zero_le _, fun j _ h => absurd h (by omega), fun j _ h => absurd h (by omega)⟩ ?_
  · simp (config := {maxSteps := 4000000}) only [U_req_ids, reduceIte, reduceCtorEq, Nat.reduceEqDiff, Nat.reduceAdd, Int.reduceLT, Int.reduceLE, Int.reduceNeg, Int.reduceEq, Nat.reduceLT, Nat.reduceSub, Nat.reduceMul, Nat.reduceBEq, Nat.reduceLeDiff, Int.reduceBEq, Int.reduceBNe, Int.reduceToNat, ne_eq, implies_true, bA]
    all_goals rfl
  · intro i ⟨hi, h1, h2⟩
    by_cases h : i < l.length
    · skip
      have d : decide ((i : Int) < (l.length : Int)) = true := by simpa using h
      have e1 : IntKind.i64.wrap ((i : Int) + 1) = ((i + 1 : Nat) : Int) := by rw [wrapI (by omega) (by omega)]; omega
      have hno1 : idB l[i] = false → idsB l = false := fun ho => by exact ids_no (lkB_no1 h ho)
      have hno2 : ∀ k (hk : k + 1 < l.length), ltB l[k] l[k + 1] = false → idsB l = false := fun k hk ho => by exact ids_no (lkB_no2 hk ho)
      have hgo : idB l[i] = true → ∀ j (h : j < l.length), j < i + 1 → idB l[j] = true := fun ho j hj hlt => by
        by_cases e : j = i
        · subst e; exact ho
        · exact h1 j hj (by omega)
      by_cases w0 : l[i] < 1
      · have x0 := decide_eq_true w0
        have hr := hno1 (by rw [← Bool.not_eq_true, idB_iff]; omega)
        simp (config := {maxSteps := 4000000}) only [U_req_ids, d, islV_Z h, x0, hr, reduceIte, reduceCtorEq, Nat.reduceEqDiff, Nat.reduceAdd, Int.reduceLT, Int.reduceLE, Int.reduceNeg, Int.reduceEq, Nat.reduceLT, Nat.reduceSub, Nat.reduceMul, Nat.reduceBEq, Nat.reduceLeDiff, Int.reduceBEq, Int.reduceBNe, Int.reduceToNat, ne_eq, implies_true, bA]
      · have x0 := decide_eq_false w0
        by_cases w1 : 65535 < l[i]
        · have x1 := decide_eq_true w1
          have hr := hno1 (by rw [← Bool.not_eq_true, idB_iff]; omega)
          simp (config := {maxSteps := 4000000}) only [U_req_ids, d, islV_Z h, x0, x1, hr, reduceIte, reduceCtorEq, Nat.reduceEqDiff, Nat.reduceAdd, Int.reduceLT, Int.reduceLE, Int.reduceNeg, Int.reduceEq, Nat.reduceLT, Nat.reduceSub, Nat.reduceMul, Nat.reduceBEq, Nat.reduceLeDiff, Int.reduceBEq, Int.reduceBNe, Int.reduceToNat, ne_eq, implies_true, bA]
        · have x1 := decide_eq_false w1
          have ho : idB l[i] = true := idB_iff.2 (by omega)
          by_cases h0 : 0 < i
          · have d2 : decide ((0 : Int) < (i : Int)) = true := by simpa using h0
            obtain ⟨k, rfl⟩ : ∃ k, i = k + 1 := ⟨i - 1, by omega⟩
            have hk : k < l.length := by omega
            have e2 : IntKind.i64.wrap (((k + 1 : Nat) : Int) - 1) = (k : Int) := by rw [wrapI (by omega) (by omega)]; omega
            by_cases hl : l[k] < l[k + 1]
            · have d3 : decide (l[k + 1] ≤ l[k]) = false := by simp; omega
              simp (config := {maxSteps := 4000000}) only [U_req_ids, d, islV_Z h, x0, x1, d2, d3, e2, islV_Z hk, e1, reduceIte, reduceCtorEq, Nat.reduceEqDiff, Nat.reduceAdd, Int.reduceLT, Int.reduceLE, Int.reduceNeg, Int.reduceEq, Nat.reduceLT, Nat.reduceSub, Nat.reduceMul, Nat.reduceBEq, Nat.reduceLeDiff, Int.reduceBEq, Int.reduceBNe, Int.reduceToNat, ne_eq, implies_true, bA]
              refine ⟨k + 1 + 1, rfl, ⟨by omega, hgo ho, fun j hj hlt => ?_⟩, by omega⟩
              by_cases e : j = k
              · subst e; simpa [ltB] using hl
              · exact h2 j hj (by omega)
            · have d3 : decide (l[k + 1] ≤ l[k]) = true := by simp; omega
              have hr := hno2 k (by omega) (by simpa [ltB] using hl)
              simp (config := {maxSteps := 4000000}) only [U_req_ids, d, islV_Z h, x0, x1, d2, d3, e2, islV_Z hk, hr, reduceIte, reduceCtorEq, Nat.reduceEqDiff, Nat.reduceAdd, Int.reduceLT, Int.reduceLE, Int.reduceNeg, Int.reduceEq, Nat.reduceLT, Nat.reduceSub, Nat.reduceMul, Nat.reduceBEq, Nat.reduceLeDiff, Int.reduceBEq, Int.reduceBNe, Int.reduceToNat, ne_eq, implies_true, bA]
          · have d2 : decide ((0 : Int) < (i : Int)) = false := by simpa using h0
            simp (config := {maxSteps := 4000000}) only [U_req_ids, d, islV_Z h, x0, x1, d2, e1, reduceIte, reduceCtorEq, Nat.reduceEqDiff, Nat.reduceAdd, Int.reduceLT, Int.reduceLE, Int.reduceNeg, Int.reduceEq, Nat.reduceLT, Nat.reduceSub, Nat.reduceMul, Nat.reduceBEq, Nat.reduceLeDiff, Int.reduceBEq, Int.reduceBNe, Int.reduceToNat, ne_eq, implies_true, bA]
            exact ⟨i + 1, rfl, ⟨by omega, hgo ho, fun j hj hlt => absurd hlt (by omega)⟩, by omega⟩
    · have d : decide ((i : Int) < (l.length : Int)) = false := by simpa using h
      have hr : lkB idB ltB l = true := lkB_at.2 ⟨fun j hj => h1 j hj (by omega), fun j hj => h2 j hj (by omega)⟩
      have hr2 : idsB l = decide (((l.length : Nat) : Int) ≤ 8) := by rw [idsB, hr, Bool.and_true, Bool.eq_iff_iff]; simp; omega
      simp (config := {maxSteps := 4000000}) only [U_req_ids, d, hr2, reduceIte, reduceCtorEq, Nat.reduceEqDiff, Nat.reduceAdd, Int.reduceLT, Int.reduceLE, Int.reduceNeg, Int.reduceEq, Nat.reduceLT, Nat.reduceSub, Nat.reduceMul, Nat.reduceBEq, Nat.reduceLeDiff, Int.reduceBEq, Int.reduceBNe, Int.reduceToNat, ne_eq, implies_true, bA]
theorem in_spec (n : Int) : PCall Try.prog 46 [.int .i64 n] (.bool (inS n 4294967295)) := by
  refine pcall_go Try.func46 comp_ref16_in ?_
  by_cases w2 : 0 ≤ n
  · have x2 := decide_eq_true w2
    simp (config := {maxSteps := 4000000}) only [U_ref16_in, x2, reduceIte, reduceCtorEq, Nat.reduceEqDiff, Nat.reduceAdd, Int.reduceLT, Int.reduceLE, Int.reduceNeg, Int.reduceEq, Nat.reduceLT, Nat.reduceSub, Nat.reduceMul, Nat.reduceBEq, Nat.reduceLeDiff, Int.reduceBEq, Int.reduceBNe, Int.reduceToNat, ne_eq, implies_true, bA]
    simp [inS, w2]
  · have x2 := decide_eq_false w2
    simp (config := {maxSteps := 4000000}) only [U_ref16_in, x2, reduceIte, reduceCtorEq, Nat.reduceEqDiff, Nat.reduceAdd, Int.reduceLT, Int.reduceLE, Int.reduceNeg, Int.reduceEq, Nat.reduceLT, Nat.reduceSub, Nat.reduceMul, Nat.reduceBEq, Nat.reduceLeDiff, Int.reduceBEq, Int.reduceBNe, Int.reduceToNat, ne_eq, implies_true, bA]
    simp [inS, w2]
theorem rmayA_spec (a : Rp) (hm : a.da.length ≤ 9223372036854775807) (hi8 : a.ids.length ≤ 1000) : PCall Try.prog 34 [pA a] (.bool (mayA a)) := by
  refine pcall_go Try.func34 comp_ref16_MayRep ?_
  by_cases w3 : a.er < 0
  · have x3 := decide_eq_true w3
    have hr : mayA a = false := by
      rw [← Bool.not_eq_true, mayA_iff]; rintro ⟨⟨a1, a2⟩, ⟨b1, b2⟩, ⟨c1, c2⟩, d, e, _⟩; first | omega | exact absurd (inS_iff.2 ⟨b1, b2⟩) (by rw [w3]; simp) | exact absurd (inS_iff.2 ⟨c1, c2⟩) (by rw [w3]; simp)
    simp (config := {maxSteps := 4000000}) only [U_ref16_MayRep, rowA, x3, hr, reduceIte, reduceCtorEq, Nat.reduceEqDiff, Nat.reduceAdd, Int.reduceLT, Int.reduceLE, Int.reduceNeg, Int.reduceEq, Nat.reduceLT, Nat.reduceSub, Nat.reduceMul, Nat.reduceBEq, Nat.reduceLeDiff, Int.reduceBEq, Int.reduceBNe, Int.reduceToNat, ne_eq, implies_true, bA]
  · have x3 := decide_eq_false w3
    by_cases w4 : 255 < a.er
    · have x4 := decide_eq_true w4
      have hr : mayA a = false := by
        rw [← Bool.not_eq_true, mayA_iff]; rintro ⟨⟨a1, a2⟩, ⟨b1, b2⟩, ⟨c1, c2⟩, d, e, _⟩; first | omega | exact absurd (inS_iff.2 ⟨b1, b2⟩) (by rw [w4]; simp) | exact absurd (inS_iff.2 ⟨c1, c2⟩) (by rw [w4]; simp)
      simp (config := {maxSteps := 4000000}) only [U_ref16_MayRep, rowA, x3, x4, hr, reduceIte, reduceCtorEq, Nat.reduceEqDiff, Nat.reduceAdd, Int.reduceLT, Int.reduceLE, Int.reduceNeg, Int.reduceEq, Nat.reduceLT, Nat.reduceSub, Nat.reduceMul, Nat.reduceBEq, Nat.reduceLeDiff, Int.reduceBEq, Int.reduceBNe, Int.reduceToNat, ne_eq, implies_true, bA]
    · have x4 := decide_eq_false w4
      simp (config := {maxSteps := 4000000}) only [U_ref16_MayRep, rowA, x3, x4, reduceIte, reduceCtorEq, Nat.reduceEqDiff, Nat.reduceAdd, Int.reduceLT, Int.reduceLE, Int.reduceNeg, Int.reduceEq, Nat.reduceLT, Nat.reduceSub, Nat.reduceMul, Nat.reduceBEq, Nat.reduceLeDiff, Int.reduceBEq, Int.reduceBNe, Int.reduceToNat, ne_eq, implies_true, bA]
      refine callI (in_spec a.sz) ?_
      cases w5 : inS a.sz 4294967295 with
      | true =>
        simp (config := {maxSteps := 4000000}) only [U_ref16_MayRep, rowA, x3, x4, reduceIte, reduceCtorEq, Nat.reduceEqDiff, Nat.reduceAdd, Int.reduceLT, Int.reduceLE, Int.reduceNeg, Int.reduceEq, Nat.reduceLT, Nat.reduceSub, Nat.reduceMul, Nat.reduceBEq, Nat.reduceLeDiff, Int.reduceBEq, Int.reduceBNe, Int.reduceToNat, ne_eq, implies_true, bA]
        refine callI (in_spec a.us) ?_
        cases w6 : inS a.us 4294967295 with
        | true =>
          by_cases w7 : (512 : Int) < (a.da.length : Int)
          · have x7 := decide_eq_true w7
            have hr : mayA a = false := by
              rw [← Bool.not_eq_true, mayA_iff]; rintro ⟨⟨a1, a2⟩, ⟨b1, b2⟩, ⟨c1, c2⟩, d, e, _⟩; first | omega | exact absurd (inS_iff.2 ⟨b1, b2⟩) (by rw [w7]; simp) | exact absurd (inS_iff.2 ⟨c1, c2⟩) (by rw [w7]; simp)
            simp (config := {maxSteps := 4000000}) only [U_ref16_MayRep, rowA, x3, x4, x7, hr, reduceIte, reduceCtorEq, Nat.reduceEqDiff, Nat.reduceAdd, Int.reduceLT, Int.reduceLE, Int.reduceNeg, Int.reduceEq, Nat.reduceLT, Nat.reduceSub, Nat.reduceMul, Nat.reduceBEq, Nat.reduceLeDiff, Int.reduceBEq, Int.reduceBNe, Int.reduceToNat, ne_eq, implies_true, bA]
          · have x7 := decide_eq_false w7
            by_cases w8 : (8 : Int) < (a.ids.length : Int)
            · have x8 := decide_eq_true w8
              have hr : mayA a = false := by
                rw [← Bool.not_eq_true, mayA_iff]; rintro ⟨⟨a1, a2⟩, ⟨b1, b2⟩, ⟨c1, c2⟩, d, e, _⟩; first | omega | exact absurd (inS_iff.2 ⟨b1, b2⟩) (by rw [w8]; simp) | exact absurd (inS_iff.2 ⟨c1, c2⟩) (by rw [w8]; simp)
              simp (config := {maxSteps := 4000000}) only [U_ref16_MayRep, rowA, x3, x4, x7, x8, hr, reduceIte, reduceCtorEq, Nat.reduceEqDiff, Nat.reduceAdd, Int.reduceLT, Int.reduceLE, Int.reduceNeg, Int.reduceEq, Nat.reduceLT, Nat.reduceSub, Nat.reduceMul, Nat.reduceBEq, Nat.reduceLeDiff, Int.reduceBEq, Int.reduceBNe, Int.reduceToNat, ne_eq, implies_true, bA]
            · have x8 := decide_eq_false w8
              simp (config := {maxSteps := 4000000}) only [U_ref16_MayRep, rowA, x3, x4, x7, x8, reduceIte, reduceCtorEq, Nat.reduceEqDiff, Nat.reduceAdd, Int.reduceLT, Int.reduceLE, Int.reduceNeg, Int.reduceEq, Nat.reduceLT, Nat.reduceSub, Nat.reduceMul, Nat.reduceBEq, Nat.reduceLeDiff, Int.reduceBEq, Int.reduceBNe, Int.reduceToNat, ne_eq, implies_true, bA]
              refine loopF (fun i : Nat => ⟨ofL [(1, .ref 0 0), (3, .int .i64 i)], [.box (rowA a)]⟩)
                (fun i => i ≤ a.ids.length ∧ (∀ j (h : j < a.ids.length), j < i → idB a.ids[j] = true) ∧ ∀ j (h : j + 1 < a.ids.length), j + 1 < i → ltB a.ids[j] a.ids[j + 1] = true) (fun i => a.ids.length - i) 0 ?_ ⟨Nat.zero_le _, fun j _ h => absurd h (by omega), fun j _ h => absurd h (by omega)⟩ ?_
              · simp (config := {maxSteps := 4000000}) only [U_ref16_MayRep, rowA, reduceIte, reduceCtorEq, Nat.reduceEqDiff, Nat.reduceAdd, Int.reduceLT, Int.reduceLE, Int.reduceNeg, Int.reduceEq, Nat.reduceLT, Nat.reduceSub, Nat.reduceMul, Nat.reduceBEq, Nat.reduceLeDiff, Int.reduceBEq, Int.reduceBNe, Int.reduceToNat, ne_eq, implies_true, bA]
                all_goals rfl
              · intro i ⟨hi, h1, h2⟩
                by_cases h : i < a.ids.length
                · skip
                  have d : decide ((i : Int) < (a.ids.length : Int)) = true := by simpa using h
                  have e1 : IntKind.i64.wrap ((i : Int) + 1) = ((i + 1 : Nat) : Int) := by rw [wrapI (by omega) (by omega)]; omega
                  have hno1 : idB a.ids[i] = false → mayA a = false := fun ho => by exact mayA_no (lkB_no1 h ho)
                  have hno2 : ∀ k (hk : k + 1 < a.ids.length), ltB a.ids[k] a.ids[k + 1] = false → mayA a = false := fun k hk ho => by exact mayA_no (lkB_no2 hk ho)
                  have hgo : idB a.ids[i] = true → ∀ j (h : j < a.ids.length), j < i + 1 → idB a.ids[j] = true := fun ho j hj hlt => by
                    by_cases e : j = i
                    · subst e; exact ho
                    · exact h1 j hj (by omega)
                  by_cases w9 : a.ids[i] < 1
                  · have x9 := decide_eq_true w9
                    have hr := hno1 (by rw [← Bool.not_eq_true, idB_iff]; omega)
                    simp (config := {maxSteps := 4000000}) only [U_ref16_MayRep, rowA, d, islV_Z h, x9, hr, reduceIte, reduceCtorEq, Nat.reduceEqDiff, Nat.reduceAdd, Int.reduceLT, Int.reduceLE, Int.reduceNeg, Int.reduceEq, Nat.reduceLT, Nat.reduceSub, Nat.reduceMul, Nat.reduceBEq, Nat.reduceLeDiff, Int.reduceBEq, Int.reduceBNe, Int.reduceToNat, ne_eq, implies_true, bA]
                  · have x9 := decide_eq_false w9
                    by_cases w10 : 65535 < a.ids[i]
                    · have x10 := decide_eq_true w10
                      have hr := hno1 (by rw [← Bool.not_eq_true, idB_iff]; omega)
                      simp (config := {maxSteps := 4000000}) only [U_ref16_MayRep, rowA, d, islV_Z h, x9, x10, hr, reduceIte, reduceCtorEq, Nat.reduceEqDiff, Nat.reduceAdd, Int.reduceLT, Int.reduceLE, Int.reduceNeg, Int.reduceEq, Nat.reduceLT, Nat.reduceSub, Nat.reduceMul, Nat.reduceBEq, Nat.reduceLeDiff, Int.reduceBEq, Int.reduceBNe, Int.reduceToNat, ne_eq, implies_true, bA]
                    · have x10 := decide_eq_false w10
                      have ho : idB a.ids[i] = true := idB_iff.2 (by omega)
                      by_cases h0 : 0 < i
                      · have d2 : decide ((0 : Int) < (i : Int)) = true := by simpa using h0
                        obtain ⟨k, rfl⟩ : ∃ k, i = k + 1 := ⟨i - 1, by omega⟩
                        have hk : k < a.ids.length := by omega
                        have e2 : IntKind.i64.wrap (((k + 1 : Nat) : Int) - 1) = (k : Int) := by rw [wrapI (by omega) (by omega)]; omega
                        by_cases hl : a.ids[k] < a.ids[k + 1]
                        · have d3 : decide (a.ids[k + 1] ≤ a.ids[k]) = false := by simp; omega
                          simp (config := {maxSteps := 4000000}) only [U_ref16_MayRep, rowA, d, islV_Z h, x9, x10, d2, d3, e2, islV_Z hk, e1, reduceIte, reduceCtorEq, Nat.reduceEqDiff, Nat.reduceAdd, Int.reduceLT, Int.reduceLE, Int.reduceNeg, Int.reduceEq, Nat.reduceLT, Nat.reduceSub, Nat.reduceMul, Nat.reduceBEq, Nat.reduceLeDiff, Int.reduceBEq, Int.reduceBNe, Int.reduceToNat, ne_eq, implies_true, bA]
                          refine ⟨k + 1 + 1, rfl, ⟨by omega, hgo ho, fun j hj hlt => ?_⟩, by omega⟩
                          by_cases e : j = k
                          · subst e; simpa [ltB] using hl
                          · exact h2 j hj (by omega)
                        · have d3 : decide (a.ids[k + 1] ≤ a.ids[k]) = true := by simp; omega
                          have hr := hno2 k (by omega) (by simpa [ltB] using hl)
                          simp (config := {maxSteps := 4000000}) only [U_ref16_MayRep, rowA, d, islV_Z h, x9, x10, d2, d3, e2, islV_Z hk, hr, reduceIte, reduceCtorEq, Nat.reduceEqDiff, Nat.reduceAdd, Int.reduceLT, Int.reduceLE, Int.reduceNeg, Int.reduceEq, Nat.reduceLT, Nat.reduceSub, Nat.reduceMul, Nat.reduceBEq, Nat.reduceLeDiff, Int.reduceBEq, Int.reduceBNe, Int.reduceToNat, ne_eq, implies_true, bA]
                      · have d2 : decide ((0 : Int) < (i : Int)) = false := by simpa using h0
                        simp (config := {maxSteps := 4000000}) only [U_ref16_MayRep, rowA, d, islV_Z h, x9, x10, d2, e1, reduceIte, reduceCtorEq, Nat.reduceEqDiff, Nat.reduceAdd, Int.reduceLT, Int.reduceLE, Int.reduceNeg, Int.reduceEq, Nat.reduceLT, Nat.reduceSub, Nat.reduceMul, Nat.reduceBEq, Nat.reduceLeDiff, Int.reduceBEq, Int.reduceBNe, Int.reduceToNat, ne_eq, implies_true, bA]
                        exact ⟨i + 1, rfl, ⟨by omega, hgo ho, fun j hj hlt => absurd hlt (by omega)⟩, by omega⟩
                · have d : decide ((i : Int) < (a.ids.length : Int)) = false := by simpa using h
                  have hr : mayA a = true := mayA_iff.2 ⟨by omega, inS_iff.1 w5, inS_iff.1 w6, by omega, by omega, lkB_at.2 ⟨fun j hj => h1 j hj (by omega), fun j hj => h2 j hj (by omega)⟩⟩
                  simp (config := {maxSteps := 4000000}) only [U_ref16_MayRep, rowA, d, hr, reduceIte, reduceCtorEq, Nat.reduceEqDiff, Nat.reduceAdd, Int.reduceLT, Int.reduceLE, Int.reduceNeg, Int.reduceEq, Nat.reduceLT, Nat.reduceSub, Nat.reduceMul, Nat.reduceBEq, Nat.reduceLeDiff, Int.reduceBEq, Int.reduceBNe, Int.reduceToNat, ne_eq, implies_true, bA]
        | false =>
          have hr : mayA a = false := by
            rw [← Bool.not_eq_true, mayA_iff]; rintro ⟨⟨a1, a2⟩, ⟨b1, b2⟩, ⟨c1, c2⟩, d, e, _⟩; first | omega | exact absurd (inS_iff.2 ⟨b1, b2⟩) (by rw [w6]; simp) | exact absurd (inS_iff.2 ⟨c1, c2⟩) (by rw [w6]; simp)
          simp (config := {maxSteps := 4000000}) only [U_ref16_MayRep, rowA, x3, x4, hr, reduceIte, reduceCtorEq, Nat.reduceEqDiff, Nat.reduceAdd, Int.reduceLT, Int.reduceLE, Int.reduceNeg, Int.reduceEq, Nat.reduceLT, Nat.reduceSub, Nat.reduceMul, Nat.reduceBEq, Nat.reduceLeDiff, Int.reduceBEq, Int.reduceBNe, Int.reduceToNat, ne_eq, implies_true, bA]
      | false =>
        have hr : mayA a = false := by
          rw [← Bool.not_eq_true, mayA_iff]; rintro ⟨⟨a1, a2⟩, ⟨b1, b2⟩, ⟨c1, c2⟩, d, e, _⟩; first | omega | exact absurd (inS_iff.2 ⟨b1, b2⟩) (by rw [w5]; simp) | exact absurd (inS_iff.2 ⟨c1, c2⟩) (by rw [w5]; simp)
        simp (config := {maxSteps := 4000000}) only [U_ref16_MayRep, rowA, x3, x4, hr, reduceIte, reduceCtorEq, Nat.reduceEqDiff, Nat.reduceAdd, Int.reduceLT, Int.reduceLE, Int.reduceNeg, Int.reduceEq, Nat.reduceLT, Nat.reduceSub, Nat.reduceMul, Nat.reduceBEq, Nat.reduceLeDiff, Int.reduceBEq, Int.reduceBNe, Int.reduceToNat, ne_eq, implies_true, bA]
set_option maxHeartbeats 4000000 in
theorem rmay_spec (q : Rq) (hm : q.da.length ≤ 9223372036854775807) : PCall Try.prog 28 [pR q] (.bool (mayR q)) := by
  refine pcall_go Try.func28 comp_ref16_May ?_
  by_cases w11 : q.op < 1
  · have x11 := decide_eq_true w11
    have hr : mayR q = false := by
      rw [← Bool.not_eq_true, mayR_plain]; rintro ⟨⟨⟨a1, a2⟩, ⟨b1, b2⟩, ⟨c1, c2⟩, ⟨d1, d2⟩, e⟩, ⟨f1, f2, f3⟩, f4⟩; first | omega | exact absurd (inS_iff.2 ⟨b1, b2⟩) (by rw [w11]; simp) | exact absurd (inS_iff.2 ⟨c1, c2⟩) (by rw [w11]; simp) | exact absurd (inS_iff.2 ⟨d1, d2⟩) (by rw [w11]; simp) | (rcases f1 with f1 | f1 <;> first | contradiction | omega)
    simp (config := {maxSteps := 4000000}) only [U_ref16_May, rowR, x11, hr, reduceIte, reduceCtorEq, Nat.reduceEqDiff, Nat.reduceAdd, Int.reduceLT, Int.reduceLE, Int.reduceNeg, Int.reduceEq, Nat.reduceLT, Nat.reduceSub, Nat.reduceMul, Nat.reduceBEq, Nat.reduceLeDiff, Int.reduceBEq, Int.reduceBNe, Int.reduceToNat, ne_eq, implies_true, bA]
  · have x11 := decide_eq_false w11
    by_cases w12 : 10 < q.op
    · have x12 := decide_eq_true w12
      have hr : mayR q = false := by
        rw [← Bool.not_eq_true, mayR_plain]; rintro ⟨⟨⟨a1, a2⟩, ⟨b1, b2⟩, ⟨c1, c2⟩, ⟨d1, d2⟩, e⟩, ⟨f1, f2, f3⟩, f4⟩; first | omega | exact absurd (inS_iff.2 ⟨b1, b2⟩) (by rw [w12]; simp) | exact absurd (inS_iff.2 ⟨c1, c2⟩) (by rw [w12]; simp) | exact absurd (inS_iff.2 ⟨d1, d2⟩) (by rw [w12]; simp) | (rcases f1 with f1 | f1 <;> first | contradiction | omega)
      simp (config := {maxSteps := 4000000}) only [U_ref16_May, rowR, x11, x12, hr, reduceIte, reduceCtorEq, Nat.reduceEqDiff, Nat.reduceAdd, Int.reduceLT, Int.reduceLE, Int.reduceNeg, Int.reduceEq, Nat.reduceLT, Nat.reduceSub, Nat.reduceMul, Nat.reduceBEq, Nat.reduceLeDiff, Int.reduceBEq, Int.reduceBNe, Int.reduceToNat, ne_eq, implies_true, bA]
    · have x12 := decide_eq_false w12
      simp (config := {maxSteps := 4000000}) only [U_ref16_May, rowR, x11, x12, reduceIte, reduceCtorEq, Nat.reduceEqDiff, Nat.reduceAdd, Int.reduceLT, Int.reduceLE, Int.reduceNeg, Int.reduceEq, Nat.reduceLT, Nat.reduceSub, Nat.reduceMul, Nat.reduceBEq, Nat.reduceLeDiff, Int.reduceBEq, Int.reduceBNe, Int.reduceToNat, ne_eq, implies_true, bA]
      refine callI (in_spec q.id) ?_
      cases w13 : inS q.id 4294967295 with
      | true =>
        simp (config := {maxSteps := 4000000}) only [U_ref16_May, rowR, x11, x12, reduceIte, reduceCtorEq, Nat.reduceEqDiff, Nat.reduceAdd, Int.reduceLT, Int.reduceLE, Int.reduceNeg, Int.reduceEq, Nat.reduceLT, Nat.reduceSub, Nat.reduceMul, Nat.reduceBEq, Nat.reduceLeDiff, Int.reduceBEq, Int.reduceBNe, Int.reduceToNat, ne_eq, implies_true, bA]
        refine callI (in_spec q.fr) ?_
        cases w14 : inS q.fr 4294967295 with
        | true =>
          simp (config := {maxSteps := 4000000}) only [U_ref16_May, rowR, x11, x12, reduceIte, reduceCtorEq, Nat.reduceEqDiff, Nat.reduceAdd, Int.reduceLT, Int.reduceLE, Int.reduceNeg, Int.reduceEq, Nat.reduceLT, Nat.reduceSub, Nat.reduceMul, Nat.reduceBEq, Nat.reduceLeDiff, Int.reduceBEq, Int.reduceBNe, Int.reduceToNat, ne_eq, implies_true, bA]
          refine callI (in_spec q.n) ?_
          cases w15 : inS q.n 4294967295 with
          | true =>
            by_cases w16 : (512 : Int) < (q.da.length : Int)
            · have x16 := decide_eq_true w16
              have hr : mayR q = false := by
                rw [← Bool.not_eq_true, mayR_plain]; rintro ⟨⟨⟨a1, a2⟩, ⟨b1, b2⟩, ⟨c1, c2⟩, ⟨d1, d2⟩, e⟩, ⟨f1, f2, f3⟩, f4⟩; first | omega | exact absurd (inS_iff.2 ⟨b1, b2⟩) (by rw [w16]; simp) | exact absurd (inS_iff.2 ⟨c1, c2⟩) (by rw [w16]; simp) | exact absurd (inS_iff.2 ⟨d1, d2⟩) (by rw [w16]; simp) | (rcases f1 with f1 | f1 <;> first | contradiction | omega)
              simp (config := {maxSteps := 4000000}) only [U_ref16_May, rowR, x11, x12, x16, hr, reduceIte, reduceCtorEq, Nat.reduceEqDiff, Nat.reduceAdd, Int.reduceLT, Int.reduceLE, Int.reduceNeg, Int.reduceEq, Nat.reduceLT, Nat.reduceSub, Nat.reduceMul, Nat.reduceBEq, Nat.reduceLeDiff, Int.reduceBEq, Int.reduceBNe, Int.reduceToNat, ne_eq, implies_true, bA]
            · have x16 := decide_eq_false w16
              by_cases w17 : q.da = []
              · have x17 : (q.da == []) = true := beq_iff_eq.2 w17
                by_cases w18 : q.fr = 0
                · have x18 : (q.fr != 0) = false := bne_eq_false_iff_eq.2 w18
                  by_cases w19 : q.id = 0
                  · have x19 : (q.id != 0) = false := bne_eq_false_iff_eq.2 w19
                    by_cases w20 : q.n = 0
                    · have x20 : (q.n == 0) = true := beq_iff_eq.2 w20
                      have hr : mayR q = true := (mayR_plain q).2 ⟨⟨by omega, inS_iff.1 w13, inS_iff.1 w14, inS_iff.1 w15, by omega⟩, ⟨by first | exact .inl (by assumption) | exact .inr (by omega), by omega, by omega⟩, by omega⟩
                      simp (config := {maxSteps := 4000000}) only [U_ref16_May, rowR, x11, x12, x16, x17, x18, x19, x20, hr, reduceIte, reduceCtorEq, Nat.reduceEqDiff, Nat.reduceAdd, Int.reduceLT, Int.reduceLE, Int.reduceNeg, Int.reduceEq, Nat.reduceLT, Nat.reduceSub, Nat.reduceMul, Nat.reduceBEq, Nat.reduceLeDiff, Int.reduceBEq, Int.reduceBNe, Int.reduceToNat, ne_eq, implies_true, bA]
                    · have x20 : (q.n == 0) = false := beq_eq_false_iff_ne.2 w20
                      by_cases w21 : q.op = 1
                      · have x21 : (q.op == 1) = true := beq_iff_eq.2 w21
                        have hr : mayR q = true := (mayR_plain q).2 ⟨⟨by omega, inS_iff.1 w13, inS_iff.1 w14, inS_iff.1 w15, by omega⟩, ⟨by first | exact .inl (by assumption) | exact .inr (by omega), by omega, by omega⟩, by omega⟩
                        simp (config := {maxSteps := 4000000}) only [U_ref16_May, rowR, x11, x12, x16, x17, x18, x19, x20, x21, hr, reduceIte, reduceCtorEq, Nat.reduceEqDiff, Nat.reduceAdd, Int.reduceLT, Int.reduceLE, Int.reduceNeg, Int.reduceEq, Nat.reduceLT, Nat.reduceSub, Nat.reduceMul, Nat.reduceBEq, Nat.reduceLeDiff, Int.reduceBEq, Int.reduceBNe, Int.reduceToNat, ne_eq, implies_true, bA]
                      · have x21 : (q.op == 1) = false := beq_eq_false_iff_ne.2 w21
                        by_cases w22 : q.op = 2
                        · have x22 : (q.op == 2) = true := beq_iff_eq.2 w22
                          have hr : mayR q = true := (mayR_plain q).2 ⟨⟨by omega, inS_iff.1 w13, inS_iff.1 w14, inS_iff.1 w15, by omega⟩, ⟨by first | exact .inl (by assumption) | exact .inr (by omega), by omega, by omega⟩, by omega⟩
                          simp (config := {maxSteps := 4000000}) only [U_ref16_May, rowR, x11, x12, x16, x17, x18, x19, x20, x21, x22, hr, reduceIte, reduceCtorEq, Nat.reduceEqDiff, Nat.reduceAdd, Int.reduceLT, Int.reduceLE, Int.reduceNeg, Int.reduceEq, Nat.reduceLT, Nat.reduceSub, Nat.reduceMul, Nat.reduceBEq, Nat.reduceLeDiff, Int.reduceBEq, Int.reduceBNe, Int.reduceToNat, ne_eq, implies_true, bA]
                        · have x22 : (q.op == 2) = false := beq_eq_false_iff_ne.2 w22
                          by_cases w23 : 5 ≤ q.op
                          · have x23 := decide_eq_true w23
                            by_cases w24 : q.op ≤ 7
                            · have x24 := decide_eq_true w24
                              have hr : mayR q = true := (mayR_plain q).2 ⟨⟨by omega, inS_iff.1 w13, inS_iff.1 w14, inS_iff.1 w15, by omega⟩, ⟨by first | exact .inl (by assumption) | exact .inr (by omega), by omega, by omega⟩, by omega⟩
                              simp (config := {maxSteps := 4000000}) only [U_ref16_May, rowR, x11, x12, x16, x17, x18, x19, x20, x21, x22, x23, x24, hr, reduceIte, reduceCtorEq, Nat.reduceEqDiff, Nat.reduceAdd, Int.reduceLT, Int.reduceLE, Int.reduceNeg, Int.reduceEq, Nat.reduceLT, Nat.reduceSub, Nat.reduceMul, Nat.reduceBEq, Nat.reduceLeDiff, Int.reduceBEq, Int.reduceBNe, Int.reduceToNat, ne_eq, implies_true, bA]
                            · have x24 := decide_eq_false w24
                              have hr : mayR q = false := by
                                rw [← Bool.not_eq_true, mayR_plain]; rintro ⟨⟨⟨a1, a2⟩, ⟨b1, b2⟩, ⟨c1, c2⟩, ⟨d1, d2⟩, e⟩, ⟨f1, f2, f3⟩, f4⟩; first | omega | exact absurd (inS_iff.2 ⟨b1, b2⟩) (by rw [w24]; simp) | exact absurd (inS_iff.2 ⟨c1, c2⟩) (by rw [w24]; simp) | exact absurd (inS_iff.2 ⟨d1, d2⟩) (by rw [w24]; simp) | (rcases f1 with f1 | f1 <;> first | contradiction | omega)
                              simp (config := {maxSteps := 4000000}) only [U_ref16_May, rowR, x11, x12, x16, x17, x18, x19, x20, x21, x22, x23, x24, hr, reduceIte, reduceCtorEq, Nat.reduceEqDiff, Nat.reduceAdd, Int.reduceLT, Int.reduceLE, Int.reduceNeg, Int.reduceEq, Nat.reduceLT, Nat.reduceSub, Nat.reduceMul, Nat.reduceBEq, Nat.reduceLeDiff, Int.reduceBEq, Int.reduceBNe, Int.reduceToNat, ne_eq, implies_true, bA]
                          · have x23 := decide_eq_false w23
                            have hr : mayR q = false := by
                              rw [← Bool.not_eq_true, mayR_plain]; rintro ⟨⟨⟨a1, a2⟩, ⟨b1, b2⟩, ⟨c1, c2⟩, ⟨d1, d2⟩, e⟩, ⟨f1, f2, f3⟩, f4⟩; first | omega | exact absurd (inS_iff.2 ⟨b1, b2⟩) (by rw [w23]; simp) | exact absurd (inS_iff.2 ⟨c1, c2⟩) (by rw [w23]; simp) | exact absurd (inS_iff.2 ⟨d1, d2⟩) (by rw [w23]; simp) | (rcases f1 with f1 | f1 <;> first | contradiction | omega)
                            simp (config := {maxSteps := 4000000}) only [U_ref16_May, rowR, x11, x12, x16, x17, x18, x19, x20, x21, x22, x23, hr, reduceIte, reduceCtorEq, Nat.reduceEqDiff, Nat.reduceAdd, Int.reduceLT, Int.reduceLE, Int.reduceNeg, Int.reduceEq, Nat.reduceLT, Nat.reduceSub, Nat.reduceMul, Nat.reduceBEq, Nat.reduceLeDiff, Int.reduceBEq, Int.reduceBNe, Int.reduceToNat, ne_eq, implies_true, bA]
                  · have x19 : (q.id != 0) = true := bne_iff_ne.2 w19
                    by_cases w25 : q.op = 8
                    · have x25 : (q.op == 8) = true := beq_iff_eq.2 w25
                      have hr : mayR q = false := by
                        rw [← Bool.not_eq_true, mayR_plain]; rintro ⟨⟨⟨a1, a2⟩, ⟨b1, b2⟩, ⟨c1, c2⟩, ⟨d1, d2⟩, e⟩, ⟨f1, f2, f3⟩, f4⟩; first | omega | exact absurd (inS_iff.2 ⟨b1, b2⟩) (by rw [w25]; simp) | exact absurd (inS_iff.2 ⟨c1, c2⟩) (by rw [w25]; simp) | exact absurd (inS_iff.2 ⟨d1, d2⟩) (by rw [w25]; simp) | (rcases f1 with f1 | f1 <;> first | contradiction | omega)
                      simp (config := {maxSteps := 4000000}) only [U_ref16_May, rowR, x11, x12, x16, x17, x18, x19, x25, hr, reduceIte, reduceCtorEq, Nat.reduceEqDiff, Nat.reduceAdd, Int.reduceLT, Int.reduceLE, Int.reduceNeg, Int.reduceEq, Nat.reduceLT, Nat.reduceSub, Nat.reduceMul, Nat.reduceBEq, Nat.reduceLeDiff, Int.reduceBEq, Int.reduceBNe, Int.reduceToNat, ne_eq, implies_true, bA]
                    · have x25 : (q.op == 8) = false := beq_eq_false_iff_ne.2 w25
                      by_cases w26 : q.op = 10
                      · have x26 : (q.op == 10) = true := beq_iff_eq.2 w26
                        have hr : mayR q = false := by
                          rw [← Bool.not_eq_true, mayR_plain]; rintro ⟨⟨⟨a1, a2⟩, ⟨b1, b2⟩, ⟨c1, c2⟩, ⟨d1, d2⟩, e⟩, ⟨f1, f2, f3⟩, f4⟩; first | omega | exact absurd (inS_iff.2 ⟨b1, b2⟩) (by rw [w26]; simp) | exact absurd (inS_iff.2 ⟨c1, c2⟩) (by rw [w26]; simp) | exact absurd (inS_iff.2 ⟨d1, d2⟩) (by rw [w26]; simp) | (rcases f1 with f1 | f1 <;> first | contradiction | omega)
                        simp (config := {maxSteps := 4000000}) only [U_ref16_May, rowR, x11, x12, x16, x17, x18, x19, x25, x26, hr, reduceIte, reduceCtorEq, Nat.reduceEqDiff, Nat.reduceAdd, Int.reduceLT, Int.reduceLE, Int.reduceNeg, Int.reduceEq, Nat.reduceLT, Nat.reduceSub, Nat.reduceMul, Nat.reduceBEq, Nat.reduceLeDiff, Int.reduceBEq, Int.reduceBNe, Int.reduceToNat, ne_eq, implies_true, bA]
                      · have x26 : (q.op == 10) = false := beq_eq_false_iff_ne.2 w26
                        by_cases w27 : q.n = 0
                        · have x27 : (q.n == 0) = true := beq_iff_eq.2 w27
                          have hr : mayR q = true := (mayR_plain q).2 ⟨⟨by omega, inS_iff.1 w13, inS_iff.1 w14, inS_iff.1 w15, by omega⟩, ⟨by first | exact .inl (by assumption) | exact .inr (by omega), by omega, by omega⟩, by omega⟩
                          simp (config := {maxSteps := 4000000}) only [U_ref16_May, rowR, x11, x12, x16, x17, x18, x19, x25, x26, x27, hr, reduceIte, reduceCtorEq, Nat.reduceEqDiff, Nat.reduceAdd, Int.reduceLT, Int.reduceLE, Int.reduceNeg, Int.reduceEq, Nat.reduceLT, Nat.reduceSub, Nat.reduceMul, Nat.reduceBEq, Nat.reduceLeDiff, Int.reduceBEq, Int.reduceBNe, Int.reduceToNat, ne_eq, implies_true, bA]
                        · have x27 : (q.n == 0) = false := beq_eq_false_iff_ne.2 w27
                          by_cases w28 : q.op = 1
                          · have x28 : (q.op == 1) = true := beq_iff_eq.2 w28
                            have hr : mayR q = true := (mayR_plain q).2 ⟨⟨by omega, inS_iff.1 w13, inS_iff.1 w14, inS_iff.1 w15, by omega⟩, ⟨by first | exact .inl (by assumption) | exact .inr (by omega), by omega, by omega⟩, by omega⟩
                            simp (config := {maxSteps := 4000000}) only [U_ref16_May, rowR, x11, x12, x16, x17, x18, x19, x25, x26, x27, x28, hr, reduceIte, reduceCtorEq, Nat.reduceEqDiff, Nat.reduceAdd, Int.reduceLT, Int.reduceLE, Int.reduceNeg, Int.reduceEq, Nat.reduceLT, Nat.reduceSub, Nat.reduceMul, Nat.reduceBEq, Nat.reduceLeDiff, Int.reduceBEq, Int.reduceBNe, Int.reduceToNat, ne_eq, implies_true, bA]
                          · have x28 : (q.op == 1) = false := beq_eq_false_iff_ne.2 w28
                            by_cases w29 : q.op = 2
                            · have x29 : (q.op == 2) = true := beq_iff_eq.2 w29
                              have hr : mayR q = true := (mayR_plain q).2 ⟨⟨by omega, inS_iff.1 w13, inS_iff.1 w14, inS_iff.1 w15, by omega⟩, ⟨by first | exact .inl (by assumption) | exact .inr (by omega), by omega, by omega⟩, by omega⟩
                              simp (config := {maxSteps := 4000000}) only [U_ref16_May, rowR, x11, x12, x16, x17, x18, x19, x25, x26, x27, x28, x29, hr, reduceIte, reduceCtorEq, Nat.reduceEqDiff, Nat.reduceAdd, Int.reduceLT, Int.reduceLE, Int.reduceNeg, Int.reduceEq, Nat.reduceLT, Nat.reduceSub, Nat.reduceMul, Nat.reduceBEq, Nat.reduceLeDiff, Int.reduceBEq, Int.reduceBNe, Int.reduceToNat, ne_eq, implies_true, bA]
                            · have x29 : (q.op == 2) = false := beq_eq_false_iff_ne.2 w29
                              by_cases w30 : 5 ≤ q.op
                              · have x30 := decide_eq_true w30
                                by_cases w31 : q.op ≤ 7
                                · have x31 := decide_eq_true w31
                                  have hr : mayR q = true := (mayR_plain q).2 ⟨⟨by omega, inS_iff.1 w13, inS_iff.1 w14, inS_iff.1 w15, by omega⟩, ⟨by first | exact .inl (by assumption) | exact .inr (by omega), by omega, by omega⟩, by omega⟩
                                  simp (config := {maxSteps := 4000000}) only [U_ref16_May, rowR, x11, x12, x16, x17, x18, x19, x25, x26, x27, x28, x29, x30, x31, hr, reduceIte, reduceCtorEq, Nat.reduceEqDiff, Nat.reduceAdd, Int.reduceLT, Int.reduceLE, Int.reduceNeg, Int.reduceEq, Nat.reduceLT, Nat.reduceSub, Nat.reduceMul, Nat.reduceBEq, Nat.reduceLeDiff, Int.reduceBEq, Int.reduceBNe, Int.reduceToNat, ne_eq, implies_true, bA]
                                · have x31 := decide_eq_false w31
                                  have hr : mayR q = false := by
                                    rw [← Bool.not_eq_true, mayR_plain]; rintro ⟨⟨⟨a1, a2⟩, ⟨b1, b2⟩, ⟨c1, c2⟩, ⟨d1, d2⟩, e⟩, ⟨f1, f2, f3⟩, f4⟩; first | omega | exact absurd (inS_iff.2 ⟨b1, b2⟩) (by rw [w31]; simp) | exact absurd (inS_iff.2 ⟨c1, c2⟩) (by rw [w31]; simp) | exact absurd (inS_iff.2 ⟨d1, d2⟩) (by rw [w31]; simp) | (rcases f1 with f1 | f1 <;> first | contradiction | omega)
                                  simp (config := {maxSteps := 4000000}) only [U_ref16_May, rowR, x11, x12, x16, x17, x18, x19, x25, x26, x27, x28, x29, x30, x31, hr, reduceIte, reduceCtorEq, Nat.reduceEqDiff, Nat.reduceAdd, Int.reduceLT, Int.reduceLE, Int.reduceNeg, Int.reduceEq, Nat.reduceLT, Nat.reduceSub, Nat.reduceMul, Nat.reduceBEq, Nat.reduceLeDiff, Int.reduceBEq, Int.reduceBNe, Int.reduceToNat, ne_eq, implies_true, bA]
                              · have x30 := decide_eq_false w30
                                have hr : mayR q = false := by
                                  rw [← Bool.not_eq_true, mayR_plain]; rintro ⟨⟨⟨a1, a2⟩, ⟨b1, b2⟩, ⟨c1, c2⟩, ⟨d1, d2⟩, e⟩, ⟨f1, f2, f3⟩, f4⟩; first | omega | exact absurd (inS_iff.2 ⟨b1, b2⟩) (by rw [w30]; simp) | exact absurd (inS_iff.2 ⟨c1, c2⟩) (by rw [w30]; simp) | exact absurd (inS_iff.2 ⟨d1, d2⟩) (by rw [w30]; simp) | (rcases f1 with f1 | f1 <;> first | contradiction | omega)
                                simp (config := {maxSteps := 4000000}) only [U_ref16_May, rowR, x11, x12, x16, x17, x18, x19, x25, x26, x27, x28, x29, x30, hr, reduceIte, reduceCtorEq, Nat.reduceEqDiff, Nat.reduceAdd, Int.reduceLT, Int.reduceLE, Int.reduceNeg, Int.reduceEq, Nat.reduceLT, Nat.reduceSub, Nat.reduceMul, Nat.reduceBEq, Nat.reduceLeDiff, Int.reduceBEq, Int.reduceBNe, Int.reduceToNat, ne_eq, implies_true, bA]
                · have x18 : (q.fr != 0) = true := bne_iff_ne.2 w18
                  by_cases w32 : q.op < 4
                  · have x32 := decide_eq_true w32
                    have hr : mayR q = false := by
                      rw [← Bool.not_eq_true, mayR_plain]; rintro ⟨⟨⟨a1, a2⟩, ⟨b1, b2⟩, ⟨c1, c2⟩, ⟨d1, d2⟩, e⟩, ⟨f1, f2, f3⟩, f4⟩; first | omega | exact absurd (inS_iff.2 ⟨b1, b2⟩) (by rw [w32]; simp) | exact absurd (inS_iff.2 ⟨c1, c2⟩) (by rw [w32]; simp) | exact absurd (inS_iff.2 ⟨d1, d2⟩) (by rw [w32]; simp) | (rcases f1 with f1 | f1 <;> first | contradiction | omega)
                    simp (config := {maxSteps := 4000000}) only [U_ref16_May, rowR, x11, x12, x16, x17, x18, x32, hr, reduceIte, reduceCtorEq, Nat.reduceEqDiff, Nat.reduceAdd, Int.reduceLT, Int.reduceLE, Int.reduceNeg, Int.reduceEq, Nat.reduceLT, Nat.reduceSub, Nat.reduceMul, Nat.reduceBEq, Nat.reduceLeDiff, Int.reduceBEq, Int.reduceBNe, Int.reduceToNat, ne_eq, implies_true, bA]
                  · have x32 := decide_eq_false w32
                    by_cases w33 : 7 < q.op
                    · have x33 := decide_eq_true w33
                      have hr : mayR q = false := by
                        rw [← Bool.not_eq_true, mayR_plain]; rintro ⟨⟨⟨a1, a2⟩, ⟨b1, b2⟩, ⟨c1, c2⟩, ⟨d1, d2⟩, e⟩, ⟨f1, f2, f3⟩, f4⟩; first | omega | exact absurd (inS_iff.2 ⟨b1, b2⟩) (by rw [w33]; simp) | exact absurd (inS_iff.2 ⟨c1, c2⟩) (by rw [w33]; simp) | exact absurd (inS_iff.2 ⟨d1, d2⟩) (by rw [w33]; simp) | (rcases f1 with f1 | f1 <;> first | contradiction | omega)
                      simp (config := {maxSteps := 4000000}) only [U_ref16_May, rowR, x11, x12, x16, x17, x18, x32, x33, hr, reduceIte, reduceCtorEq, Nat.reduceEqDiff, Nat.reduceAdd, Int.reduceLT, Int.reduceLE, Int.reduceNeg, Int.reduceEq, Nat.reduceLT, Nat.reduceSub, Nat.reduceMul, Nat.reduceBEq, Nat.reduceLeDiff, Int.reduceBEq, Int.reduceBNe, Int.reduceToNat, ne_eq, implies_true, bA]
                    · have x33 := decide_eq_false w33
                      by_cases w34 : q.id = 0
                      · have x34 : (q.id != 0) = false := bne_eq_false_iff_eq.2 w34
                        by_cases w35 : q.n = 0
                        · have x35 : (q.n == 0) = true := beq_iff_eq.2 w35
                          have hr : mayR q = true := (mayR_plain q).2 ⟨⟨by omega, inS_iff.1 w13, inS_iff.1 w14, inS_iff.1 w15, by omega⟩, ⟨by first | exact .inl (by assumption) | exact .inr (by omega), by omega, by omega⟩, by omega⟩
                          simp (config := {maxSteps := 4000000}) only [U_ref16_May, rowR, x11, x12, x16, x17, x18, x32, x33, x34, x35, hr, reduceIte, reduceCtorEq, Nat.reduceEqDiff, Nat.reduceAdd, Int.reduceLT, Int.reduceLE, Int.reduceNeg, Int.reduceEq, Nat.reduceLT, Nat.reduceSub, Nat.reduceMul, Nat.reduceBEq, Nat.reduceLeDiff, Int.reduceBEq, Int.reduceBNe, Int.reduceToNat, ne_eq, implies_true, bA]
                        · have x35 : (q.n == 0) = false := beq_eq_false_iff_ne.2 w35
                          by_cases w36 : q.op = 1
                          · have x36 : (q.op == 1) = true := beq_iff_eq.2 w36
                            have hr : mayR q = true := (mayR_plain q).2 ⟨⟨by omega, inS_iff.1 w13, inS_iff.1 w14, inS_iff.1 w15, by omega⟩, ⟨by first | exact .inl (by assumption) | exact .inr (by omega), by omega, by omega⟩, by omega⟩
                            simp (config := {maxSteps := 4000000}) only [U_ref16_May, rowR, x11, x12, x16, x17, x18, x32, x33, x34, x35, x36, hr, reduceIte, reduceCtorEq, Nat.reduceEqDiff, Nat.reduceAdd, Int.reduceLT, Int.reduceLE, Int.reduceNeg, Int.reduceEq, Nat.reduceLT, Nat.reduceSub, Nat.reduceMul, Nat.reduceBEq, Nat.reduceLeDiff, Int.reduceBEq, Int.reduceBNe, Int.reduceToNat, ne_eq, implies_true, bA]
                          · have x36 : (q.op == 1) = false := beq_eq_false_iff_ne.2 w36
                            by_cases w37 : q.op = 2
                            · have x37 : (q.op == 2) = true := beq_iff_eq.2 w37
                              have hr : mayR q = true := (mayR_plain q).2 ⟨⟨by omega, inS_iff.1 w13, inS_iff.1 w14, inS_iff.1 w15, by omega⟩, ⟨by first | exact .inl (by assumption) | exact .inr (by omega), by omega, by omega⟩, by omega⟩
                              simp (config := {maxSteps := 4000000}) only [U_ref16_May, rowR, x11, x12, x16, x17, x18, x32, x33, x34, x35, x36, x37, hr, reduceIte, reduceCtorEq, Nat.reduceEqDiff, Nat.reduceAdd, Int.reduceLT, Int.reduceLE, Int.reduceNeg, Int.reduceEq, Nat.reduceLT, Nat.reduceSub, Nat.reduceMul, Nat.reduceBEq, Nat.reduceLeDiff, Int.reduceBEq, Int.reduceBNe, Int.reduceToNat, ne_eq, implies_true, bA]
                            · have x37 : (q.op == 2) = false := beq_eq_false_iff_ne.2 w37
                              by_cases w38 : 5 ≤ q.op
                              · have x38 := decide_eq_true w38
                                by_cases w39 : q.op ≤ 7
                                · have x39 := decide_eq_true w39
                                  have hr : mayR q = true := (mayR_plain q).2 ⟨⟨by omega, inS_iff.1 w13, inS_iff.1 w14, inS_iff.1 w15, by omega⟩, ⟨by first | exact .inl (by assumption) | exact .inr (by omega), by omega, by omega⟩, by omega⟩
                                  simp (config := {maxSteps := 4000000}) only [U_ref16_May, rowR, x11, x12, x16, x17, x18, x32, x33, x34, x35, x36, x37, x38, x39, hr, reduceIte, reduceCtorEq, Nat.reduceEqDiff, Nat.reduceAdd, Int.reduceLT, Int.reduceLE, Int.reduceNeg, Int.reduceEq, Nat.reduceLT, Nat.reduceSub, Nat.reduceMul, Nat.reduceBEq, Nat.reduceLeDiff, Int.reduceBEq, Int.reduceBNe, Int.reduceToNat, ne_eq, implies_true, bA]
                                · have x39 := decide_eq_false w39
                                  have hr : mayR q = false := by
                                    rw [← Bool.not_eq_true, mayR_plain]; rintro ⟨⟨⟨a1, a2⟩, ⟨b1, b2⟩, ⟨c1, c2⟩, ⟨d1, d2⟩, e⟩, ⟨f1, f2, f3⟩, f4⟩; first | omega | exact absurd (inS_iff.2 ⟨b1, b2⟩) (by rw [w39]; simp) | exact absurd (inS_iff.2 ⟨c1, c2⟩) (by rw [w39]; simp) | exact absurd (inS_iff.2 ⟨d1, d2⟩) (by rw [w39]; simp) | (rcases f1 with f1 | f1 <;> first | contradiction | omega)
                                  simp (config := {maxSteps := 4000000}) only [U_ref16_May, rowR, x11, x12, x16, x17, x18, x32, x33, x34, x35, x36, x37, x38, x39, hr, reduceIte, reduceCtorEq, Nat.reduceEqDiff, Nat.reduceAdd, Int.reduceLT, Int.reduceLE, Int.reduceNeg, Int.reduceEq, Nat.reduceLT, Nat.reduceSub, Nat.reduceMul, Nat.reduceBEq, Nat.reduceLeDiff, Int.reduceBEq, Int.reduceBNe, Int.reduceToNat, ne_eq, implies_true, bA]
                              · have x38 := decide_eq_false w38
                                have hr : mayR q = false := by
                                  rw [← Bool.not_eq_true, mayR_plain]; rintro ⟨⟨⟨a1, a2⟩, ⟨b1, b2⟩, ⟨c1, c2⟩, ⟨d1, d2⟩, e⟩, ⟨f1, f2, f3⟩, f4⟩; first | omega | exact absurd (inS_iff.2 ⟨b1, b2⟩) (by rw [w38]; simp) | exact absurd (inS_iff.2 ⟨c1, c2⟩) (by rw [w38]; simp) | exact absurd (inS_iff.2 ⟨d1, d2⟩) (by rw [w38]; simp) | (rcases f1 with f1 | f1 <;> first | contradiction | omega)
                                simp (config := {maxSteps := 4000000}) only [U_ref16_May, rowR, x11, x12, x16, x17, x18, x32, x33, x34, x35, x36, x37, x38, hr, reduceIte, reduceCtorEq, Nat.reduceEqDiff, Nat.reduceAdd, Int.reduceLT, Int.reduceLE, Int.reduceNeg, Int.reduceEq, Nat.reduceLT, Nat.reduceSub, Nat.reduceMul, Nat.reduceBEq, Nat.reduceLeDiff, Int.reduceBEq, Int.reduceBNe, Int.reduceToNat, ne_eq, implies_true, bA]
                      · have x34 : (q.id != 0) = true := bne_iff_ne.2 w34
                        by_cases w40 : q.op = 8
                        · have x40 : (q.op == 8) = true := beq_iff_eq.2 w40
                          have hr : mayR q = false := by
                            rw [← Bool.not_eq_true, mayR_plain]; rintro ⟨⟨⟨a1, a2⟩, ⟨b1, b2⟩, ⟨c1, c2⟩, ⟨d1, d2⟩, e⟩, ⟨f1, f2, f3⟩, f4⟩; first | omega | exact absurd (inS_iff.2 ⟨b1, b2⟩) (by rw [w40]; simp) | exact absurd (inS_iff.2 ⟨c1, c2⟩) (by rw [w40]; simp) | exact absurd (inS_iff.2 ⟨d1, d2⟩) (by rw [w40]; simp) | (rcases f1 with f1 | f1 <;> first | contradiction | omega)
                          simp (config := {maxSteps := 4000000}) only [U_ref16_May, rowR, x11, x12, x16, x17, x18, x32, x33, x34, x40, hr, reduceIte, reduceCtorEq, Nat.reduceEqDiff, Nat.reduceAdd, Int.reduceLT, Int.reduceLE, Int.reduceNeg, Int.reduceEq, Nat.reduceLT, Nat.reduceSub, Nat.reduceMul, Nat.reduceBEq, Nat.reduceLeDiff, Int.reduceBEq, Int.reduceBNe, Int.reduceToNat, ne_eq, implies_true, bA]
                        · have x40 : (q.op == 8) = false := beq_eq_false_iff_ne.2 w40
                          by_cases w41 : q.op = 10
                          · have x41 : (q.op == 10) = true := beq_iff_eq.2 w41
                            have hr : mayR q = false := by
                              rw [← Bool.not_eq_true, mayR_plain]; rintro ⟨⟨⟨a1, a2⟩, ⟨b1, b2⟩, ⟨c1, c2⟩, ⟨d1, d2⟩, e⟩, ⟨f1, f2, f3⟩, f4⟩; first | omega | exact absurd (inS_iff.2 ⟨b1, b2⟩) (by rw [w41]; simp) | exact absurd (inS_iff.2 ⟨c1, c2⟩) (by rw [w41]; simp) | exact absurd (inS_iff.2 ⟨d1, d2⟩) (by rw [w41]; simp) | (rcases f1 with f1 | f1 <;> first | contradiction | omega)
                            simp (config := {maxSteps := 4000000}) only [U_ref16_May, rowR, x11, x12, x16, x17, x18, x32, x33, x34, x40, x41, hr, reduceIte, reduceCtorEq, Nat.reduceEqDiff, Nat.reduceAdd, Int.reduceLT, Int.reduceLE, Int.reduceNeg, Int.reduceEq, Nat.reduceLT, Nat.reduceSub, Nat.reduceMul, Nat.reduceBEq, Nat.reduceLeDiff, Int.reduceBEq, Int.reduceBNe, Int.reduceToNat, ne_eq, implies_true, bA]
                          · have x41 : (q.op == 10) = false := beq_eq_false_iff_ne.2 w41
                            by_cases w42 : q.n = 0
                            · have x42 : (q.n == 0) = true := beq_iff_eq.2 w42
                              have hr : mayR q = true := (mayR_plain q).2 ⟨⟨by omega, inS_iff.1 w13, inS_iff.1 w14, inS_iff.1 w15, by omega⟩, ⟨by first | exact .inl (by assumption) | exact .inr (by omega), by omega, by omega⟩, by omega⟩
                              simp (config := {maxSteps := 4000000}) only [U_ref16_May, rowR, x11, x12, x16, x17, x18, x32, x33, x34, x40, x41, x42, hr, reduceIte, reduceCtorEq, Nat.reduceEqDiff, Nat.reduceAdd, Int.reduceLT, Int.reduceLE, Int.reduceNeg, Int.reduceEq, Nat.reduceLT, Nat.reduceSub, Nat.reduceMul, Nat.reduceBEq, Nat.reduceLeDiff, Int.reduceBEq, Int.reduceBNe, Int.reduceToNat, ne_eq, implies_true, bA]
                            · have x42 : (q.n == 0) = false := beq_eq_false_iff_ne.2 w42
                              by_cases w43 : q.op = 1
                              · have x43 : (q.op == 1) = true := beq_iff_eq.2 w43
                                have hr : mayR q = true := (mayR_plain q).2 ⟨⟨by omega, inS_iff.1 w13, inS_iff.1 w14, inS_iff.1 w15, by omega⟩, ⟨by first | exact .inl (by assumption) | exact .inr (by omega), by omega, by omega⟩, by omega⟩
                                simp (config := {maxSteps := 4000000}) only [U_ref16_May, rowR, x11, x12, x16, x17, x18, x32, x33, x34, x40, x41, x42, x43, hr, reduceIte, reduceCtorEq, Nat.reduceEqDiff, Nat.reduceAdd, Int.reduceLT, Int.reduceLE, Int.reduceNeg, Int.reduceEq, Nat.reduceLT, Nat.reduceSub, Nat.reduceMul, Nat.reduceBEq, Nat.reduceLeDiff, Int.reduceBEq, Int.reduceBNe, Int.reduceToNat, ne_eq, implies_true, bA]
                              · have x43 : (q.op == 1) = false := beq_eq_false_iff_ne.2 w43
                                by_cases w44 : q.op = 2
                                · have x44 : (q.op == 2) = true := beq_iff_eq.2 w44
                                  have hr : mayR q = true := (mayR_plain q).2 ⟨⟨by omega, inS_iff.1 w13, inS_iff.1 w14, inS_iff.1 w15, by omega⟩, ⟨by first | exact .inl (by assumption) | exact .inr (by omega), by omega, by omega⟩, by omega⟩
                                  simp (config := {maxSteps := 4000000}) only [U_ref16_May, rowR, x11, x12, x16, x17, x18, x32, x33, x34, x40, x41, x42, x43, x44, hr, reduceIte, reduceCtorEq, Nat.reduceEqDiff, Nat.reduceAdd, Int.reduceLT, Int.reduceLE, Int.reduceNeg, Int.reduceEq, Nat.reduceLT, Nat.reduceSub, Nat.reduceMul, Nat.reduceBEq, Nat.reduceLeDiff, Int.reduceBEq, Int.reduceBNe, Int.reduceToNat, ne_eq, implies_true, bA]
                                · have x44 : (q.op == 2) = false := beq_eq_false_iff_ne.2 w44
                                  by_cases w45 : 5 ≤ q.op
                                  · have x45 := decide_eq_true w45
                                    by_cases w46 : q.op ≤ 7
                                    · have x46 := decide_eq_true w46
                                      have hr : mayR q = true := (mayR_plain q).2 ⟨⟨by omega, inS_iff.1 w13, inS_iff.1 w14, inS_iff.1 w15, by omega⟩, ⟨by first | exact .inl (by assumption) | exact .inr (by omega), by omega, by omega⟩, by omega⟩
                                      simp (config := {maxSteps := 4000000}) only [U_ref16_May, rowR, x11, x12, x16, x17, x18, x32, x33, x34, x40, x41, x42, x43, x44, x45, x46, hr, reduceIte, reduceCtorEq, Nat.reduceEqDiff, Nat.reduceAdd, Int.reduceLT, Int.reduceLE, Int.reduceNeg, Int.reduceEq, Nat.reduceLT, Nat.reduceSub, Nat.reduceMul, Nat.reduceBEq, Nat.reduceLeDiff, Int.reduceBEq, Int.reduceBNe, Int.reduceToNat, ne_eq, implies_true, bA]
                                    · have x46 := decide_eq_false w46
                                      have hr : mayR q = false := by
                                        rw [← Bool.not_eq_true, mayR_plain]; rintro ⟨⟨⟨a1, a2⟩, ⟨b1, b2⟩, ⟨c1, c2⟩, ⟨d1, d2⟩, e⟩, ⟨f1, f2, f3⟩, f4⟩; first | omega | exact absurd (inS_iff.2 ⟨b1, b2⟩) (by rw [w46]; simp) | exact absurd (inS_iff.2 ⟨c1, c2⟩) (by rw [w46]; simp) | exact absurd (inS_iff.2 ⟨d1, d2⟩) (by rw [w46]; simp) | (rcases f1 with f1 | f1 <;> first | contradiction | omega)
                                      simp (config := {maxSteps := 4000000}) only [U_ref16_May, rowR, x11, x12, x16, x17, x18, x32, x33, x34, x40, x41, x42, x43, x44, x45, x46, hr, reduceIte, reduceCtorEq, Nat.reduceEqDiff, Nat.reduceAdd, Int.reduceLT, Int.reduceLE, Int.reduceNeg, Int.reduceEq, Nat.reduceLT, Nat.reduceSub, Nat.reduceMul, Nat.reduceBEq, Nat.reduceLeDiff, Int.reduceBEq, Int.reduceBNe, Int.reduceToNat, ne_eq, implies_true, bA]
                                  · have x45 := decide_eq_false w45
                                    have hr : mayR q = false := by
                                      rw [← Bool.not_eq_true, mayR_plain]; rintro ⟨⟨⟨a1, a2⟩, ⟨b1, b2⟩, ⟨c1, c2⟩, ⟨d1, d2⟩, e⟩, ⟨f1, f2, f3⟩, f4⟩; first | omega | exact absurd (inS_iff.2 ⟨b1, b2⟩) (by rw [w45]; simp) | exact absurd (inS_iff.2 ⟨c1, c2⟩) (by rw [w45]; simp) | exact absurd (inS_iff.2 ⟨d1, d2⟩) (by rw [w45]; simp) | (rcases f1 with f1 | f1 <;> first | contradiction | omega)
                                    simp (config := {maxSteps := 4000000}) only [U_ref16_May, rowR, x11, x12, x16, x17, x18, x32, x33, x34, x40, x41, x42, x43, x44, x45, hr, reduceIte, reduceCtorEq, Nat.reduceEqDiff, Nat.reduceAdd, Int.reduceLT, Int.reduceLE, Int.reduceNeg, Int.reduceEq, Nat.reduceLT, Nat.reduceSub, Nat.reduceMul, Nat.reduceBEq, Nat.reduceLeDiff, Int.reduceBEq, Int.reduceBNe, Int.reduceToNat, ne_eq, implies_true, bA]
              · have x17 : (q.da == []) = false := beq_eq_false_iff_ne.2 w17
                by_cases w47 : q.op = 4
                · have x47 : (q.op != 4) = false := bne_eq_false_iff_eq.2 w47
                  by_cases w48 : q.fr = 0
                  · have x48 : (q.fr != 0) = false := bne_eq_false_iff_eq.2 w48
                    by_cases w49 : q.id = 0
                    · have x49 : (q.id != 0) = false := bne_eq_false_iff_eq.2 w49
                      by_cases w50 : q.n = 0
                      · have x50 : (q.n == 0) = true := beq_iff_eq.2 w50
                        have hr : mayR q = true := (mayR_plain q).2 ⟨⟨by omega, inS_iff.1 w13, inS_iff.1 w14, inS_iff.1 w15, by omega⟩, ⟨by first | exact .inl (by assumption) | exact .inr (by omega), by omega, by omega⟩, by omega⟩
                        simp (config := {maxSteps := 4000000}) only [U_ref16_May, rowR, x11, x12, x16, x17, x47, x48, x49, x50, hr, reduceIte, reduceCtorEq, Nat.reduceEqDiff, Nat.reduceAdd, Int.reduceLT, Int.reduceLE, Int.reduceNeg, Int.reduceEq, Nat.reduceLT, Nat.reduceSub, Nat.reduceMul, Nat.reduceBEq, Nat.reduceLeDiff, Int.reduceBEq, Int.reduceBNe, Int.reduceToNat, ne_eq, implies_true, bA]
                      · have x50 : (q.n == 0) = false := beq_eq_false_iff_ne.2 w50
                        by_cases w51 : q.op = 1
                        · have x51 : (q.op == 1) = true := beq_iff_eq.2 w51
                          have hr : mayR q = true := (mayR_plain q).2 ⟨⟨by omega, inS_iff.1 w13, inS_iff.1 w14, inS_iff.1 w15, by omega⟩, ⟨by first | exact .inl (by assumption) | exact .inr (by omega), by omega, by omega⟩, by omega⟩
                          simp (config := {maxSteps := 4000000}) only [U_ref16_May, rowR, x11, x12, x16, x17, x47, x48, x49, x50, x51, hr, reduceIte, reduceCtorEq, Nat.reduceEqDiff, Nat.reduceAdd, Int.reduceLT, Int.reduceLE, Int.reduceNeg, Int.reduceEq, Nat.reduceLT, Nat.reduceSub, Nat.reduceMul, Nat.reduceBEq, Nat.reduceLeDiff, Int.reduceBEq, Int.reduceBNe, Int.reduceToNat, ne_eq, implies_true, bA]
                        · have x51 : (q.op == 1) = false := beq_eq_false_iff_ne.2 w51
                          by_cases w52 : q.op = 2
                          · have x52 : (q.op == 2) = true := beq_iff_eq.2 w52
                            have hr : mayR q = true := (mayR_plain q).2 ⟨⟨by omega, inS_iff.1 w13, inS_iff.1 w14, inS_iff.1 w15, by omega⟩, ⟨by first | exact .inl (by assumption) | exact .inr (by omega), by omega, by omega⟩, by omega⟩
                            simp (config := {maxSteps := 4000000}) only [U_ref16_May, rowR, x11, x12, x16, x17, x47, x48, x49, x50, x51, x52, hr, reduceIte, reduceCtorEq, Nat.reduceEqDiff, Nat.reduceAdd, Int.reduceLT, Int.reduceLE, Int.reduceNeg, Int.reduceEq, Nat.reduceLT, Nat.reduceSub, Nat.reduceMul, Nat.reduceBEq, Nat.reduceLeDiff, Int.reduceBEq, Int.reduceBNe, Int.reduceToNat, ne_eq, implies_true, bA]
                          · have x52 : (q.op == 2) = false := beq_eq_false_iff_ne.2 w52
                            by_cases w53 : 5 ≤ q.op
                            · have x53 := decide_eq_true w53
                              by_cases w54 : q.op ≤ 7
                              · have x54 := decide_eq_true w54
                                have hr : mayR q = true := (mayR_plain q).2 ⟨⟨by omega, inS_iff.1 w13, inS_iff.1 w14, inS_iff.1 w15, by omega⟩, ⟨by first | exact .inl (by assumption) | exact .inr (by omega), by omega, by omega⟩, by omega⟩
                                simp (config := {maxSteps := 4000000}) only [U_ref16_May, rowR, x11, x12, x16, x17, x47, x48, x49, x50, x51, x52, x53, x54, hr, reduceIte, reduceCtorEq, Nat.reduceEqDiff, Nat.reduceAdd, Int.reduceLT, Int.reduceLE, Int.reduceNeg, Int.reduceEq, Nat.reduceLT, Nat.reduceSub, Nat.reduceMul, Nat.reduceBEq, Nat.reduceLeDiff, Int.reduceBEq, Int.reduceBNe, Int.reduceToNat, ne_eq, implies_true, bA]
                              · have x54 := decide_eq_false w54
                                have hr : mayR q = false := by
                                  rw [← Bool.not_eq_true, mayR_plain]; rintro ⟨⟨⟨a1, a2⟩, ⟨b1, b2⟩, ⟨c1, c2⟩, ⟨d1, d2⟩, e⟩, ⟨f1, f2, f3⟩, f4⟩; first | omega | exact absurd (inS_iff.2 ⟨b1, b2⟩) (by rw [w54]; simp) | exact absurd (inS_iff.2 ⟨c1, c2⟩) (by rw [w54]; simp) | exact absurd (inS_iff.2 ⟨d1, d2⟩) (by rw [w54]; simp) | (rcases f1 with f1 | f1 <;> first | contradiction | omega)
                                simp (config := {maxSteps := 4000000}) only [U_ref16_May, rowR, x11, x12, x16, x17, x47, x48, x49, x50, x51, x52, x53, x54, hr, reduceIte, reduceCtorEq, Nat.reduceEqDiff, Nat.reduceAdd, Int.reduceLT, Int.reduceLE, Int.reduceNeg, Int.reduceEq, Nat.reduceLT, Nat.reduceSub, Nat.reduceMul, Nat.reduceBEq, Nat.reduceLeDiff, Int.reduceBEq, Int.reduceBNe, Int.reduceToNat, ne_eq, implies_true, bA]
                            · have x53 := decide_eq_false w53
                              have hr : mayR q = false := by
                                rw [← Bool.not_eq_true, mayR_plain]; rintro ⟨⟨⟨a1, a2⟩, ⟨b1, b2⟩, ⟨c1, c2⟩, ⟨d1, d2⟩, e⟩, ⟨f1, f2, f3⟩, f4⟩; first | omega | exact absurd (inS_iff.2 ⟨b1, b2⟩) (by rw [w53]; simp) | exact absurd (inS_iff.2 ⟨c1, c2⟩) (by rw [w53]; simp) | exact absurd (inS_iff.2 ⟨d1, d2⟩) (by rw [w53]; simp) | (rcases f1 with f1 | f1 <;> first | contradiction | omega)
                              simp (config := {maxSteps := 4000000}) only [U_ref16_May, rowR, x11, x12, x16, x17, x47, x48, x49, x50, x51, x52, x53, hr, reduceIte, reduceCtorEq, Nat.reduceEqDiff, Nat.reduceAdd, Int.reduceLT, Int.reduceLE, Int.reduceNeg, Int.reduceEq, Nat.reduceLT, Nat.reduceSub, Nat.reduceMul, Nat.reduceBEq, Nat.reduceLeDiff, Int.reduceBEq, Int.reduceBNe, Int.reduceToNat, ne_eq, implies_true, bA]
                    · have x49 : (q.id != 0) = true := bne_iff_ne.2 w49
                      by_cases w55 : q.op = 8
                      · have x55 : (q.op == 8) = true := beq_iff_eq.2 w55
                        have hr : mayR q = false := by
                          rw [← Bool.not_eq_true, mayR_plain]; rintro ⟨⟨⟨a1, a2⟩, ⟨b1, b2⟩, ⟨c1, c2⟩, ⟨d1, d2⟩, e⟩, ⟨f1, f2, f3⟩, f4⟩; first | omega | exact absurd (inS_iff.2 ⟨b1, b2⟩) (by rw [w55]; simp) | exact absurd (inS_iff.2 ⟨c1, c2⟩) (by rw [w55]; simp) | exact absurd (inS_iff.2 ⟨d1, d2⟩) (by rw [w55]; simp) | (rcases f1 with f1 | f1 <;> first | contradiction | omega)
                        simp (config := {maxSteps := 4000000}) only [U_ref16_May, rowR, x11, x12, x16, x17, x47, x48, x49, x55, hr, reduceIte, reduceCtorEq, Nat.reduceEqDiff, Nat.reduceAdd, Int.reduceLT, Int.reduceLE, Int.reduceNeg, Int.reduceEq, Nat.reduceLT, Nat.reduceSub, Nat.reduceMul, Nat.reduceBEq, Nat.reduceLeDiff, Int.reduceBEq, Int.reduceBNe, Int.reduceToNat, ne_eq, implies_true, bA]
                      · have x55 : (q.op == 8) = false := beq_eq_false_iff_ne.2 w55
                        by_cases w56 : q.op = 10
                        · have x56 : (q.op == 10) = true := beq_iff_eq.2 w56
                          have hr : mayR q = false := by
                            rw [← Bool.not_eq_true, mayR_plain]; rintro ⟨⟨⟨a1, a2⟩, ⟨b1, b2⟩, ⟨c1, c2⟩, ⟨d1, d2⟩, e⟩, ⟨f1, f2, f3⟩, f4⟩; first | omega | exact absurd (inS_iff.2 ⟨b1, b2⟩) (by rw [w56]; simp) | exact absurd (inS_iff.2 ⟨c1, c2⟩) (by rw [w56]; simp) | exact absurd (inS_iff.2 ⟨d1, d2⟩) (by rw [w56]; simp) | (rcases f1 with f1 | f1 <;> first | contradiction | omega)
                          simp (config := {maxSteps := 4000000}) only [U_ref16_May, rowR, x11, x12, x16, x17, x47, x48, x49, x55, x56, hr, reduceIte, reduceCtorEq, Nat.reduceEqDiff, Nat.reduceAdd, Int.reduceLT, Int.reduceLE, Int.reduceNeg, Int.reduceEq, Nat.reduceLT, Nat.reduceSub, Nat.reduceMul, Nat.reduceBEq, Nat.reduceLeDiff, Int.reduceBEq, Int.reduceBNe, Int.reduceToNat, ne_eq, implies_true, bA]
                        · have x56 : (q.op == 10) = false := beq_eq_false_iff_ne.2 w56
                          by_cases w57 : q.n = 0
                          · have x57 : (q.n == 0) = true := beq_iff_eq.2 w57
                            have hr : mayR q = true := (mayR_plain q).2 ⟨⟨by omega, inS_iff.1 w13, inS_iff.1 w14, inS_iff.1 w15, by omega⟩, ⟨by first | exact .inl (by assumption) | exact .inr (by omega), by omega, by omega⟩, by omega⟩
                            simp (config := {maxSteps := 4000000}) only [U_ref16_May, rowR, x11, x12, x16, x17, x47, x48, x49, x55, x56, x57, hr, reduceIte, reduceCtorEq, Nat.reduceEqDiff, Nat.reduceAdd, Int.reduceLT, Int.reduceLE, Int.reduceNeg, Int.reduceEq, Nat.reduceLT, Nat.reduceSub, Nat.reduceMul, Nat.reduceBEq, Nat.reduceLeDiff, Int.reduceBEq, Int.reduceBNe, Int.reduceToNat, ne_eq, implies_true, bA]
                          · have x57 : (q.n == 0) = false := beq_eq_false_iff_ne.2 w57
                            by_cases w58 : q.op = 1
                            · have x58 : (q.op == 1) = true := beq_iff_eq.2 w58
                              have hr : mayR q = true := (mayR_plain q).2 ⟨⟨by omega, inS_iff.1 w13, inS_iff.1 w14, inS_iff.1 w15, by omega⟩, ⟨by first | exact .inl (by assumption) | exact .inr (by omega), by omega, by omega⟩, by omega⟩
                              simp (config := {maxSteps := 4000000}) only [U_ref16_May, rowR, x11, x12, x16, x17, x47, x48, x49, x55, x56, x57, x58, hr, reduceIte, reduceCtorEq, Nat.reduceEqDiff, Nat.reduceAdd, Int.reduceLT, Int.reduceLE, Int.reduceNeg, Int.reduceEq, Nat.reduceLT, Nat.reduceSub, Nat.reduceMul, Nat.reduceBEq, Nat.reduceLeDiff, Int.reduceBEq, Int.reduceBNe, Int.reduceToNat, ne_eq, implies_true, bA]
                            · have x58 : (q.op == 1) = false := beq_eq_false_iff_ne.2 w58
                              by_cases w59 : q.op = 2
                              · have x59 : (q.op == 2) = true := beq_iff_eq.2 w59
                                have hr : mayR q = true := (mayR_plain q).2 ⟨⟨by omega, inS_iff.1 w13, inS_iff.1 w14, inS_iff.1 w15, by omega⟩, ⟨by first | exact .inl (by assumption) | exact .inr (by omega), by omega, by omega⟩, by omega⟩
                                simp (config := {maxSteps := 4000000}) only [U_ref16_May, rowR, x11, x12, x16, x17, x47, x48, x49, x55, x56, x57, x58, x59, hr, reduceIte, reduceCtorEq, Nat.reduceEqDiff, Nat.reduceAdd, Int.reduceLT, Int.reduceLE, Int.reduceNeg, Int.reduceEq, Nat.reduceLT, Nat.reduceSub, Nat.reduceMul, Nat.reduceBEq, Nat.reduceLeDiff, Int.reduceBEq, Int.reduceBNe, Int.reduceToNat, ne_eq, implies_true, bA]
                              · have x59 : (q.op == 2) = false := beq_eq_false_iff_ne.2 w59
                                by_cases w60 : 5 ≤ q.op
                                · have x60 := decide_eq_true w60
                                  by_cases w61 : q.op ≤ 7
                                  · have x61 := decide_eq_true w61
                                    have hr : mayR q = true := (mayR_plain q).2 ⟨⟨by omega, inS_iff.1 w13, inS_iff.1 w14, inS_iff.1 w15, by omega⟩, ⟨by first | exact .inl (by assumption) | exact .inr (by omega), by omega, by omega⟩, by omega⟩
                                    simp (config := {maxSteps := 4000000}) only [U_ref16_May, rowR, x11, x12, x16, x17, x47, x48, x49, x55, x56, x57, x58, x59, x60, x61, hr, reduceIte, reduceCtorEq, Nat.reduceEqDiff, Nat.reduceAdd, Int.reduceLT, Int.reduceLE, Int.reduceNeg, Int.reduceEq, Nat.reduceLT, Nat.reduceSub, Nat.reduceMul, Nat.reduceBEq, Nat.reduceLeDiff, Int.reduceBEq, Int.reduceBNe, Int.reduceToNat, ne_eq, implies_true, bA]
                                  · have x61 := decide_eq_false w61
                                    have hr : mayR q = false := by
                                      rw [← Bool.not_eq_true, mayR_plain]; rintro ⟨⟨⟨a1, a2⟩, ⟨b1, b2⟩, ⟨c1, c2⟩, ⟨d1, d2⟩, e⟩, ⟨f1, f2, f3⟩, f4⟩; first | omega | exact absurd (inS_iff.2 ⟨b1, b2⟩) (by rw [w61]; simp) | exact absurd (inS_iff.2 ⟨c1, c2⟩) (by rw [w61]; simp) | exact absurd (inS_iff.2 ⟨d1, d2⟩) (by rw [w61]; simp) | (rcases f1 with f1 | f1 <;> first | contradiction | omega)
                                    simp (config := {maxSteps := 4000000}) only [U_ref16_May, rowR, x11, x12, x16, x17, x47, x48, x49, x55, x56, x57, x58, x59, x60, x61, hr, reduceIte, reduceCtorEq, Nat.reduceEqDiff, Nat.reduceAdd, Int.reduceLT, Int.reduceLE, Int.reduceNeg, Int.reduceEq, Nat.reduceLT, Nat.reduceSub, Nat.reduceMul, Nat.reduceBEq, Nat.reduceLeDiff, Int.reduceBEq, Int.reduceBNe, Int.reduceToNat, ne_eq, implies_true, bA]
                                · have x60 := decide_eq_false w60
                                  have hr : mayR q = false := by
                                    rw [← Bool.not_eq_true, mayR_plain]; rintro ⟨⟨⟨a1, a2⟩, ⟨b1, b2⟩, ⟨c1, c2⟩, ⟨d1, d2⟩, e⟩, ⟨f1, f2, f3⟩, f4⟩; first | omega | exact absurd (inS_iff.2 ⟨b1, b2⟩) (by rw [w60]; simp) | exact absurd (inS_iff.2 ⟨c1, c2⟩) (by rw [w60]; simp) | exact absurd (inS_iff.2 ⟨d1, d2⟩) (by rw [w60]; simp) | (rcases f1 with f1 | f1 <;> first | contradiction | omega)
                                  simp (config := {maxSteps := 4000000}) only [U_ref16_May, rowR, x11, x12, x16, x17, x47, x48, x49, x55, x56, x57, x58, x59, x60, hr, reduceIte, reduceCtorEq, Nat.reduceEqDiff, Nat.reduceAdd, Int.reduceLT, Int.reduceLE, Int.reduceNeg, Int.reduceEq, Nat.reduceLT, Nat.reduceSub, Nat.reduceMul, Nat.reduceBEq, Nat.reduceLeDiff, Int.reduceBEq, Int.reduceBNe, Int.reduceToNat, ne_eq, implies_true, bA]
                  · have x48 : (q.fr != 0) = true := bne_iff_ne.2 w48
                    by_cases w62 : q.op < 4
                    · have x62 := decide_eq_true w62
                      have hr : mayR q = false := by
                        rw [← Bool.not_eq_true, mayR_plain]; rintro ⟨⟨⟨a1, a2⟩, ⟨b1, b2⟩, ⟨c1, c2⟩, ⟨d1, d2⟩, e⟩, ⟨f1, f2, f3⟩, f4⟩; first | omega | exact absurd (inS_iff.2 ⟨b1, b2⟩) (by rw [w62]; simp) | exact absurd (inS_iff.2 ⟨c1, c2⟩) (by rw [w62]; simp) | exact absurd (inS_iff.2 ⟨d1, d2⟩) (by rw [w62]; simp) | (rcases f1 with f1 | f1 <;> first | contradiction | omega)
                      simp (config := {maxSteps := 4000000}) only [U_ref16_May, rowR, x11, x12, x16, x17, x47, x48, x62, hr, reduceIte, reduceCtorEq, Nat.reduceEqDiff, Nat.reduceAdd, Int.reduceLT, Int.reduceLE, Int.reduceNeg, Int.reduceEq, Nat.reduceLT, Nat.reduceSub, Nat.reduceMul, Nat.reduceBEq, Nat.reduceLeDiff, Int.reduceBEq, Int.reduceBNe, Int.reduceToNat, ne_eq, implies_true, bA]
                    · have x62 := decide_eq_false w62
                      by_cases w63 : 7 < q.op
                      · have x63 := decide_eq_true w63
                        have hr : mayR q = false := by
                          rw [← Bool.not_eq_true, mayR_plain]; rintro ⟨⟨⟨a1, a2⟩, ⟨b1, b2⟩, ⟨c1, c2⟩, ⟨d1, d2⟩, e⟩, ⟨f1, f2, f3⟩, f4⟩; first | omega | exact absurd (inS_iff.2 ⟨b1, b2⟩) (by rw [w63]; simp) | exact absurd (inS_iff.2 ⟨c1, c2⟩) (by rw [w63]; simp) | exact absurd (inS_iff.2 ⟨d1, d2⟩) (by rw [w63]; simp) | (rcases f1 with f1 | f1 <;> first | contradiction | omega)
                        simp (config := {maxSteps := 4000000}) only [U_ref16_May, rowR, x11, x12, x16, x17, x47, x48, x62, x63, hr, reduceIte, reduceCtorEq, Nat.reduceEqDiff, Nat.reduceAdd, Int.reduceLT, Int.reduceLE, Int.reduceNeg, Int.reduceEq, Nat.reduceLT, Nat.reduceSub, Nat.reduceMul, Nat.reduceBEq, Nat.reduceLeDiff, Int.reduceBEq, Int.reduceBNe, Int.reduceToNat, ne_eq, implies_true, bA]
                      · have x63 := decide_eq_false w63
                        by_cases w64 : q.id = 0
                        · have x64 : (q.id != 0) = false := bne_eq_false_iff_eq.2 w64
                          by_cases w65 : q.n = 0
                          · have x65 : (q.n == 0) = true := beq_iff_eq.2 w65
                            have hr : mayR q = true := (mayR_plain q).2 ⟨⟨by omega, inS_iff.1 w13, inS_iff.1 w14, inS_iff.1 w15, by omega⟩, ⟨by first | exact .inl (by assumption) | exact .inr (by omega), by omega, by omega⟩, by omega⟩
                            simp (config := {maxSteps := 4000000}) only [U_ref16_May, rowR, x11, x12, x16, x17, x47, x48, x62, x63, x64, x65, hr, reduceIte, reduceCtorEq, Nat.reduceEqDiff, Nat.reduceAdd, Int.reduceLT, Int.reduceLE, Int.reduceNeg, Int.reduceEq, Nat.reduceLT, Nat.reduceSub, Nat.reduceMul, Nat.reduceBEq, Nat.reduceLeDiff, Int.reduceBEq, Int.reduceBNe, Int.reduceToNat, ne_eq, implies_true, bA]
                          · have x65 : (q.n == 0) = false := beq_eq_false_iff_ne.2 w65
                            by_cases w66 : q.op = 1
                            · have x66 : (q.op == 1) = true := beq_iff_eq.2 w66
                              have hr : mayR q = true := (mayR_plain q).2 ⟨⟨by omega, inS_iff.1 w13, inS_iff.1 w14, inS_iff.1 w15, by omega⟩, ⟨by first | exact .inl (by assumption) | exact .inr (by omega), by omega, by omega⟩, by omega⟩
                              simp (config := {maxSteps := 4000000}) only [U_ref16_May, rowR, x11, x12, x16, x17, x47, x48, x62, x63, x64, x65, x66, hr, reduceIte, reduceCtorEq, Nat.reduceEqDiff, Nat.reduceAdd, Int.reduceLT, Int.reduceLE, Int.reduceNeg, Int.reduceEq, Nat.reduceLT, Nat.reduceSub, Nat.reduceMul, Nat.reduceBEq, Nat.reduceLeDiff, Int.reduceBEq, Int.reduceBNe, Int.reduceToNat, ne_eq, implies_true, bA]
                            · have x66 : (q.op == 1) = false := beq_eq_false_iff_ne.2 w66
                              by_cases w67 : q.op = 2
                              · have x67 : (q.op == 2) = true := beq_iff_eq.2 w67
                                have hr : mayR q = true := (mayR_plain q).2 ⟨⟨by omega, inS_iff.1 w13, inS_iff.1 w14, inS_iff.1 w15, by omega⟩, ⟨by first | exact .inl (by assumption) | exact .inr (by omega), by omega, by omega⟩, by omega⟩
                                simp (config := {maxSteps := 4000000}) only [U_ref16_May, rowR, x11, x12, x16, x17, x47, x48, x62, x63, x64, x65, x66, x67, hr, reduceIte, reduceCtorEq, Nat.reduceEqDiff, Nat.reduceAdd, Int.reduceLT, Int.reduceLE, Int.reduceNeg, Int.reduceEq, Nat.reduceLT, Nat.reduceSub, Nat.reduceMul, Nat.reduceBEq, Nat.reduceLeDiff, Int.reduceBEq, Int.reduceBNe, Int.reduceToNat, ne_eq, implies_true, bA]
                              · have x67 : (q.op == 2) = false := beq_eq_false_iff_ne.2 w67
                                by_cases w68 : 5 ≤ q.op
                                · have x68 := decide_eq_true w68
                                  by_cases w69 : q.op ≤ 7
                                  · have x69 := decide_eq_true w69
                                    have hr : mayR q = true := (mayR_plain q).2 ⟨⟨by omega, inS_iff.1 w13, inS_iff.1 w14, inS_iff.1 w15, by omega⟩, ⟨by first | exact .inl (by assumption) | exact .inr (by omega), by omega, by omega⟩, by omega⟩
                                    simp (config := {maxSteps := 4000000}) only [U_ref16_May, rowR, x11, x12, x16, x17, x47, x48, x62, x63, x64, x65, x66, x67, x68, x69, hr, reduceIte, reduceCtorEq, Nat.reduceEqDiff, Nat.reduceAdd, Int.reduceLT, Int.reduceLE, Int.reduceNeg, Int.reduceEq, Nat.reduceLT, Nat.reduceSub, Nat.reduceMul, Nat.reduceBEq, Nat.reduceLeDiff, Int.reduceBEq, Int.reduceBNe, Int.reduceToNat, ne_eq, implies_true, bA]
                                  · have x69 := decide_eq_false w69
                                    have hr : mayR q = false := by
                                      rw [← Bool.not_eq_true, mayR_plain]; rintro ⟨⟨⟨a1, a2⟩, ⟨b1, b2⟩, ⟨c1, c2⟩, ⟨d1, d2⟩, e⟩, ⟨f1, f2, f3⟩, f4⟩; first | omega | exact absurd (inS_iff.2 ⟨b1, b2⟩) (by rw [w69]; simp) | exact absurd (inS_iff.2 ⟨c1, c2⟩) (by rw [w69]; simp) | exact absurd (inS_iff.2 ⟨d1, d2⟩) (by rw [w69]; simp) | (rcases f1 with f1 | f1 <;> first | contradiction | omega)
                                    simp (config := {maxSteps := 4000000}) only [U_ref16_May, rowR, x11, x12, x16, x17, x47, x48, x62, x63, x64, x65, x66, x67, x68, x69, hr, reduceIte, reduceCtorEq, Nat.reduceEqDiff, Nat.reduceAdd, Int.reduceLT, Int.reduceLE, Int.reduceNeg, Int.reduceEq, Nat.reduceLT, Nat.reduceSub, Nat.reduceMul, Nat.reduceBEq, Nat.reduceLeDiff, Int.reduceBEq, Int.reduceBNe, Int.reduceToNat, ne_eq, implies_true, bA]
                                · have x68 := decide_eq_false w68
                                  have hr : mayR q = false := by
                                    rw [← Bool.not_eq_true, mayR_plain]; rintro ⟨⟨⟨a1, a2⟩, ⟨b1, b2⟩, ⟨c1, c2⟩, ⟨d1, d2⟩, e⟩, ⟨f1, f2, f3⟩, f4⟩; first | omega | exact absurd (inS_iff.2 ⟨b1, b2⟩) (by rw [w68]; simp) | exact absurd (inS_iff.2 ⟨c1, c2⟩) (by rw [w68]; simp) | exact absurd (inS_iff.2 ⟨d1, d2⟩) (by rw [w68]; simp) | (rcases f1 with f1 | f1 <;> first | contradiction | omega)
                                  simp (config := {maxSteps := 4000000}) only [U_ref16_May, rowR, x11, x12, x16, x17, x47, x48, x62, x63, x64, x65, x66, x67, x68, hr, reduceIte, reduceCtorEq, Nat.reduceEqDiff, Nat.reduceAdd, Int.reduceLT, Int.reduceLE, Int.reduceNeg, Int.reduceEq, Nat.reduceLT, Nat.reduceSub, Nat.reduceMul, Nat.reduceBEq, Nat.reduceLeDiff, Int.reduceBEq, Int.reduceBNe, Int.reduceToNat, ne_eq, implies_true, bA]
                        · have x64 : (q.id != 0) = true := bne_iff_ne.2 w64
                          by_cases w70 : q.op = 8
                          · have x70 : (q.op == 8) = true := beq_iff_eq.2 w70
                            have hr : mayR q = false := by
                              rw [← Bool.not_eq_true, mayR_plain]; rintro ⟨⟨⟨a1, a2⟩, ⟨b1, b2⟩, ⟨c1, c2⟩, ⟨d1, d2⟩, e⟩, ⟨f1, f2, f3⟩, f4⟩; first | omega | exact absurd (inS_iff.2 ⟨b1, b2⟩) (by rw [w70]; simp) | exact absurd (inS_iff.2 ⟨c1, c2⟩) (by rw [w70]; simp) | exact absurd (inS_iff.2 ⟨d1, d2⟩) (by rw [w70]; simp) | (rcases f1 with f1 | f1 <;> first | contradiction | omega)
                            simp (config := {maxSteps := 4000000}) only [U_ref16_May, rowR, x11, x12, x16, x17, x47, x48, x62, x63, x64, x70, hr, reduceIte, reduceCtorEq, Nat.reduceEqDiff, Nat.reduceAdd, Int.reduceLT, Int.reduceLE, Int.reduceNeg, Int.reduceEq, Nat.reduceLT, Nat.reduceSub, Nat.reduceMul, Nat.reduceBEq, Nat.reduceLeDiff, Int.reduceBEq, Int.reduceBNe, Int.reduceToNat, ne_eq, implies_true, bA]
                          · have x70 : (q.op == 8) = false := beq_eq_false_iff_ne.2 w70
                            by_cases w71 : q.op = 10
                            · have x71 : (q.op == 10) = true := beq_iff_eq.2 w71
                              have hr : mayR q = false := by
                                rw [← Bool.not_eq_true, mayR_plain]; rintro ⟨⟨⟨a1, a2⟩, ⟨b1, b2⟩, ⟨c1, c2⟩, ⟨d1, d2⟩, e⟩, ⟨f1, f2, f3⟩, f4⟩; first | omega | exact absurd (inS_iff.2 ⟨b1, b2⟩) (by rw [w71]; simp) | exact absurd (inS_iff.2 ⟨c1, c2⟩) (by rw [w71]; simp) | exact absurd (inS_iff.2 ⟨d1, d2⟩) (by rw [w71]; simp) | (rcases f1 with f1 | f1 <;> first | contradiction | omega)
                              simp (config := {maxSteps := 4000000}) only [U_ref16_May, rowR, x11, x12, x16, x17, x47, x48, x62, x63, x64, x70, x71, hr, reduceIte, reduceCtorEq, Nat.reduceEqDiff, Nat.reduceAdd, Int.reduceLT, Int.reduceLE, Int.reduceNeg, Int.reduceEq, Nat.reduceLT, Nat.reduceSub, Nat.reduceMul, Nat.reduceBEq, Nat.reduceLeDiff, Int.reduceBEq, Int.reduceBNe, Int.reduceToNat, ne_eq, implies_true, bA]
                            · have x71 : (q.op == 10) = false := beq_eq_false_iff_ne.2 w71
                              by_cases w72 : q.n = 0
                              · have x72 : (q.n == 0) = true := beq_iff_eq.2 w72
                                have hr : mayR q = true := (mayR_plain q).2 ⟨⟨by omega, inS_iff.1 w13, inS_iff.1 w14, inS_iff.1 w15, by omega⟩, ⟨by first | exact .inl (by assumption) | exact .inr (by omega), by omega, by omega⟩, by omega⟩
                                simp (config := {maxSteps := 4000000}) only [U_ref16_May, rowR, x11, x12, x16, x17, x47, x48, x62, x63, x64, x70, x71, x72, hr, reduceIte, reduceCtorEq, Nat.reduceEqDiff, Nat.reduceAdd, Int.reduceLT, Int.reduceLE, Int.reduceNeg, Int.reduceEq, Nat.reduceLT, Nat.reduceSub, Nat.reduceMul, Nat.reduceBEq, Nat.reduceLeDiff, Int.reduceBEq, Int.reduceBNe, Int.reduceToNat, ne_eq, implies_true, bA]
                              · have x72 : (q.n == 0) = false := beq_eq_false_iff_ne.2 w72
                                by_cases w73 : q.op = 1
                                · have x73 : (q.op == 1) = true := beq_iff_eq.2 w73
                                  have hr : mayR q = true := (mayR_plain q).2 ⟨⟨by omega, inS_iff.1 w13, inS_iff.1 w14, inS_iff.1 w15, by omega⟩, ⟨by first | exact .inl (by assumption) | exact .inr (by omega), by omega, by omega⟩, by omega⟩
                                  simp (config := {maxSteps := 4000000}) only [U_ref16_May, rowR, x11, x12, x16, x17, x47, x48, x62, x63, x64, x70, x71, x72, x73, hr, reduceIte, reduceCtorEq, Nat.reduceEqDiff, Nat.reduceAdd, Int.reduceLT, Int.reduceLE, Int.reduceNeg, Int.reduceEq, Nat.reduceLT, Nat.reduceSub, Nat.reduceMul, Nat.reduceBEq, Nat.reduceLeDiff, Int.reduceBEq, Int.reduceBNe, Int.reduceToNat, ne_eq, implies_true, bA]
                                · have x73 : (q.op == 1) = false := beq_eq_false_iff_ne.2 w73
                                  by_cases w74 : q.op = 2
                                  · have x74 : (q.op == 2) = true := beq_iff_eq.2 w74
                                    have hr : mayR q = true := (mayR_plain q).2 ⟨⟨by omega, inS_iff.1 w13, inS_iff.1 w14, inS_iff.1 w15, by omega⟩, ⟨by first | exact .inl (by assumption) | exact .inr (by omega), by omega, by omega⟩, by omega⟩
                                    simp (config := {maxSteps := 4000000}) only [U_ref16_May, rowR, x11, x12, x16, x17, x47, x48, x62, x63, x64, x70, x71, x72, x73, x74, hr, reduceIte, reduceCtorEq, Nat.reduceEqDiff, Nat.reduceAdd, Int.reduceLT, Int.reduceLE, Int.reduceNeg, Int.reduceEq, Nat.reduceLT, Nat.reduceSub, Nat.reduceMul, Nat.reduceBEq, Nat.reduceLeDiff, Int.reduceBEq, Int.reduceBNe, Int.reduceToNat, ne_eq, implies_true, bA]
                                  · have x74 : (q.op == 2) = false := beq_eq_false_iff_ne.2 w74
                                    by_cases w75 : 5 ≤ q.op
                                    · have x75 := decide_eq_true w75
                                      by_cases w76 : q.op ≤ 7
                                      · have x76 := decide_eq_true w76
                                        have hr : mayR q = true := (mayR_plain q).2 ⟨⟨by omega, inS_iff.1 w13, inS_iff.1 w14, inS_iff.1 w15, by omega⟩, ⟨by first | exact .inl (by assumption) | exact .inr (by omega), by omega, by omega⟩, by omega⟩
                                        simp (config := {maxSteps := 4000000}) only [U_ref16_May, rowR, x11, x12, x16, x17, x47, x48, x62, x63, x64, x70, x71, x72, x73, x74, x75, x76, hr, reduceIte, reduceCtorEq, Nat.reduceEqDiff, Nat.reduceAdd, Int.reduceLT, Int.reduceLE, Int.reduceNeg, Int.reduceEq, Nat.reduceLT, Nat.reduceSub, Nat.reduceMul, Nat.reduceBEq, Nat.reduceLeDiff, Int.reduceBEq, Int.reduceBNe, Int.reduceToNat, ne_eq, implies_true, bA]
                                      · have x76 := decide_eq_false w76
                                        have hr : mayR q = false := by
                                          rw [← Bool.not_eq_true, mayR_plain]; rintro ⟨⟨⟨a1, a2⟩, ⟨b1, b2⟩, ⟨c1, c2⟩, ⟨d1, d2⟩, e⟩, ⟨f1, f2, f3⟩, f4⟩; first | omega | exact absurd (inS_iff.2 ⟨b1, b2⟩) (by rw [w76]; simp) | exact absurd (inS_iff.2 ⟨c1, c2⟩) (by rw [w76]; simp) | exact absurd (inS_iff.2 ⟨d1, d2⟩) (by rw [w76]; simp) | (rcases f1 with f1 | f1 <;> first | contradiction | omega)
                                        simp (config := {maxSteps := 4000000}) only [U_ref16_May, rowR, x11, x12, x16, x17, x47, x48, x62, x63, x64, x70, x71, x72, x73, x74, x75, x76, hr, reduceIte, reduceCtorEq, Nat.reduceEqDiff, Nat.reduceAdd, Int.reduceLT, Int.reduceLE, Int.reduceNeg, Int.reduceEq, Nat.reduceLT, Nat.reduceSub, Nat.reduceMul, Nat.reduceBEq, Nat.reduceLeDiff, Int.reduceBEq, Int.reduceBNe, Int.reduceToNat, ne_eq, implies_true, bA]
                                    · have x75 := decide_eq_false w75
                                      have hr : mayR q = false := by
                                        rw [← Bool.not_eq_true, mayR_plain]; rintro ⟨⟨⟨a1, a2⟩, ⟨b1, b2⟩, ⟨c1, c2⟩, ⟨d1, d2⟩, e⟩, ⟨f1, f2, f3⟩, f4⟩; first | omega | exact absurd (inS_iff.2 ⟨b1, b2⟩) (by rw [w75]; simp) | exact absurd (inS_iff.2 ⟨c1, c2⟩) (by rw [w75]; simp) | exact absurd (inS_iff.2 ⟨d1, d2⟩) (by rw [w75]; simp) | (rcases f1 with f1 | f1 <;> first | contradiction | omega)
                                      simp (config := {maxSteps := 4000000}) only [U_ref16_May, rowR, x11, x12, x16, x17, x47, x48, x62, x63, x64, x70, x71, x72, x73, x74, x75, hr, reduceIte, reduceCtorEq, Nat.reduceEqDiff, Nat.reduceAdd, Int.reduceLT, Int.reduceLE, Int.reduceNeg, Int.reduceEq, Nat.reduceLT, Nat.reduceSub, Nat.reduceMul, Nat.reduceBEq, Nat.reduceLeDiff, Int.reduceBEq, Int.reduceBNe, Int.reduceToNat, ne_eq, implies_true, bA]
                · have x47 : (q.op != 4) = true := bne_iff_ne.2 w47
                  have hr : mayR q = false := by
                    rw [← Bool.not_eq_true, mayR_plain]; rintro ⟨⟨⟨a1, a2⟩, ⟨b1, b2⟩, ⟨c1, c2⟩, ⟨d1, d2⟩, e⟩, ⟨f1, f2, f3⟩, f4⟩; first | omega | exact absurd (inS_iff.2 ⟨b1, b2⟩) (by rw [w47]; simp) | exact absurd (inS_iff.2 ⟨c1, c2⟩) (by rw [w47]; simp) | exact absurd (inS_iff.2 ⟨d1, d2⟩) (by rw [w47]; simp) | (rcases f1 with f1 | f1 <;> first | contradiction | omega)
                  simp (config := {maxSteps := 4000000}) only [U_ref16_May, rowR, x11, x12, x16, x17, x47, hr, reduceIte, reduceCtorEq, Nat.reduceEqDiff, Nat.reduceAdd, Int.reduceLT, Int.reduceLE, Int.reduceNeg, Int.reduceEq, Nat.reduceLT, Nat.reduceSub, Nat.reduceMul, Nat.reduceBEq, Nat.reduceLeDiff, Int.reduceBEq, Int.reduceBNe, Int.reduceToNat, ne_eq, implies_true, bA]
          | false =>
            have hr : mayR q = false := by
              rw [← Bool.not_eq_true, mayR_plain]; rintro ⟨⟨⟨a1, a2⟩, ⟨b1, b2⟩, ⟨c1, c2⟩, ⟨d1, d2⟩, e⟩, ⟨f1, f2, f3⟩, f4⟩; first | omega | exact absurd (inS_iff.2 ⟨b1, b2⟩) (by rw [w15]; simp) | exact absurd (inS_iff.2 ⟨c1, c2⟩) (by rw [w15]; simp) | exact absurd (inS_iff.2 ⟨d1, d2⟩) (by rw [w15]; simp) | (rcases f1 with f1 | f1 <;> first | contradiction | omega)
            simp (config := {maxSteps := 4000000}) only [U_ref16_May, rowR, x11, x12, hr, reduceIte, reduceCtorEq, Nat.reduceEqDiff, Nat.reduceAdd, Int.reduceLT, Int.reduceLE, Int.reduceNeg, Int.reduceEq, Nat.reduceLT, Nat.reduceSub, Nat.reduceMul, Nat.reduceBEq, Nat.reduceLeDiff, Int.reduceBEq, Int.reduceBNe, Int.reduceToNat, ne_eq, implies_true, bA]
        | false =>
          have hr : mayR q = false := by
            rw [← Bool.not_eq_true, mayR_plain]; rintro ⟨⟨⟨a1, a2⟩, ⟨b1, b2⟩, ⟨c1, c2⟩, ⟨d1, d2⟩, e⟩, ⟨f1, f2, f3⟩, f4⟩; first | omega | exact absurd (inS_iff.2 ⟨b1, b2⟩) (by rw [w14]; simp) | exact absurd (inS_iff.2 ⟨c1, c2⟩) (by rw [w14]; simp) | exact absurd (inS_iff.2 ⟨d1, d2⟩) (by rw [w14]; simp) | (rcases f1 with f1 | f1 <;> first | contradiction | omega)
          simp (config := {maxSteps := 4000000}) only [U_ref16_May, rowR, x11, x12, hr, reduceIte, reduceCtorEq, Nat.reduceEqDiff, Nat.reduceAdd, Int.reduceLT, Int.reduceLE, Int.reduceNeg, Int.reduceEq, Nat.reduceLT, Nat.reduceSub, Nat.reduceMul, Nat.reduceBEq, Nat.reduceLeDiff, Int.reduceBEq, Int.reduceBNe, Int.reduceToNat, ne_eq, implies_true, bA]
      | false =>
        have hr : mayR q = false := by
          rw [← Bool.not_eq_true, mayR_plain]; rintro ⟨⟨⟨a1, a2⟩, ⟨b1, b2⟩, ⟨c1, c2⟩, ⟨d1, d2⟩, e⟩, ⟨f1, f2, f3⟩, f4⟩; first | omega | exact absurd (inS_iff.2 ⟨b1, b2⟩) (by rw [w13]; simp) | exact absurd (inS_iff.2 ⟨c1, c2⟩) (by rw [w13]; simp) | exact absurd (inS_iff.2 ⟨d1, d2⟩) (by rw [w13]; simp) | (rcases f1 with f1 | f1 <;> first | contradiction | omega)
        simp (config := {maxSteps := 4000000}) only [U_ref16_May, rowR, x11, x12, hr, reduceIte, reduceCtorEq, Nat.reduceEqDiff, Nat.reduceAdd, Int.reduceLT, Int.reduceLE, Int.reduceNeg, Int.reduceEq, Nat.reduceLT, Nat.reduceSub, Nat.reduceMul, Nat.reduceBEq, Nat.reduceLeDiff, Int.reduceBEq, Int.reduceBNe, Int.reduceToNat, ne_eq, implies_true, bA]
end Go.Proofs.Ytoofeppepahpfaa.Aw
