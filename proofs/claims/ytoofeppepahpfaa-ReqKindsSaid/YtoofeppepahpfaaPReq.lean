/-
  What the functions of the package 'req' compute: writing requests.
-/
import Derived.Test.YtoofeppepahpfaaPReq0
set_option linter.unusedSimpArgs false
set_option linter.unusedVariables false
namespace Go.Proofs.Ytoofeppepahpfaa.Aw
open Go.RowKit

theorem small_spec (l : List Int) (hl : l.length ≤ 1000) : PCall Try.prog 23 [.slc (rowsZ .i64 l)] (.bool (l.all fun n => inS n 4294967295)) := by
  refine pcall_go Try.func23 comp_req_small ?_
  simp (config := {maxSteps := 4000000}) only [U_req_small, reduceIte, reduceCtorEq, Nat.reduceEqDiff, Nat.reduceAdd, Int.reduceLT, Int.reduceLE, Int.reduceNeg, Int.reduceEq, Nat.reduceLT, Nat.reduceSub, Nat.reduceMul, Nat.reduceBEq, Nat.reduceLeDiff, Int.reduceBEq, Int.reduceBNe, Int.reduceToNat, ne_eq, implies_true, bA]
  refine loopF (fun i : Nat => ⟨ofL [(5, .slc (rowsZ .i64 l)), (6, .int .i64 l.length), (7, .int .i64 i)], []⟩)
    (fun i => i ≤ l.length ∧ ∀ j (h : j < l.length), j < i → inS l[j] 4294967295 = true) (fun i => l.length - i) 0 ?_ ⟨Nat.zero_le _, fun j _ h => absurd h (by omega)⟩ ?_
  · simp (config := {maxSteps := 4000000}) only [U_req_small, reduceIte, reduceCtorEq, Nat.reduceEqDiff, Nat.reduceAdd, Int.reduceLT, Int.reduceLE, Int.reduceNeg, Int.reduceEq, Nat.reduceLT, Nat.reduceSub, Nat.reduceMul, Nat.reduceBEq, Nat.reduceLeDiff, Int.reduceBEq, Int.reduceBNe, Int.reduceToNat, ne_eq, implies_true, bA]
    all_goals rfl
  · intro i ⟨hi, h1⟩
    by_cases h : i < l.length
    · have d : decide ((i : Int) < (l.length : Int)) = true := by simpa using h
      have e1 : IntKind.i64.wrap ((i : Int) + 1) = ((i + 1 : Nat) : Int) := by rw [wrapI (by omega) (by omega)]; omega
      have hno : ¬ (0 ≤ l[i] ∧ l[i] ≤ 4294967295) → (l.all fun n => inS n 4294967295) = false := fun hb => by
        rw [List.all_eq_false]
        exact ⟨l[i], List.getElem_mem h, fun hc => hb (inS_iff.1 hc)⟩
      by_cases w0 : l[i] < 0
      · have x0 := decide_eq_true w0
        have hr := hno (by omega)
        simp (config := {maxSteps := 4000000}) only [U_req_small, d, islV_Z h, x0, hr, reduceIte, reduceCtorEq, Nat.reduceEqDiff, Nat.reduceAdd, Int.reduceLT, Int.reduceLE, Int.reduceNeg, Int.reduceEq, Nat.reduceLT, Nat.reduceSub, Nat.reduceMul, Nat.reduceBEq, Nat.reduceLeDiff, Int.reduceBEq, Int.reduceBNe, Int.reduceToNat, ne_eq, implies_true, bA]
      · have x0 := decide_eq_false w0
        by_cases w1 : 4294967295 < l[i]
        · have x1 := decide_eq_true w1
          have hr := hno (by omega)
          simp (config := {maxSteps := 4000000}) only [U_req_small, d, islV_Z h, x0, x1, hr, reduceIte, reduceCtorEq, Nat.reduceEqDiff, Nat.reduceAdd, Int.reduceLT, Int.reduceLE, Int.reduceNeg, Int.reduceEq, Nat.reduceLT, Nat.reduceSub, Nat.reduceMul, Nat.reduceBEq, Nat.reduceLeDiff, Int.reduceBEq, Int.reduceBNe, Int.reduceToNat, ne_eq, implies_true, bA]
        · have x1 := decide_eq_false w1
          simp (config := {maxSteps := 4000000}) only [U_req_small, d, islV_Z h, e1, x0, x1, reduceIte, reduceCtorEq, Nat.reduceEqDiff, Nat.reduceAdd, Int.reduceLT, Int.reduceLE, Int.reduceNeg, Int.reduceEq, Nat.reduceLT, Nat.reduceSub, Nat.reduceMul, Nat.reduceBEq, Nat.reduceLeDiff, Int.reduceBEq, Int.reduceBNe, Int.reduceToNat, ne_eq, implies_true, bA]
          refine ⟨i + 1, rfl, ⟨by omega, fun j hj hlt => ?_⟩, by omega⟩
          by_cases e : j = i
          · subst e; exact inS_iff.2 (by omega)
          · exact h1 j hj (by omega)
    · have d : decide ((i : Int) < (l.length : Int)) = false := by simpa using h
      have hr : (l.all fun n => inS n 4294967295) = true := List.all_eq_true.2 fun x hx => by
        obtain ⟨j, hj, rfl⟩ := List.mem_iff_getElem.1 hx
        exact h1 j hj (by omega)
      simp (config := {maxSteps := 4000000}) only [U_req_small, d, hr, reduceIte, reduceCtorEq, Nat.reduceEqDiff, Nat.reduceAdd, Int.reduceLT, Int.reduceLE, Int.reduceNeg, Int.reduceEq, Nat.reduceLT, Nat.reduceSub, Nat.reduceMul, Nat.reduceBEq, Nat.reduceLeDiff, Int.reduceBEq, Int.reduceBNe, Int.reduceToNat, ne_eq, implies_true, bA]
theorem numbers_spec (l : List Int) (hl : l.length ≤ 1000) (h0 : ∀ x ∈ l, 0 ≤ x ∧ x < 18446744073709551616) : PCall Try.prog 25 [.slc (rowsZ .i64 l)] (.own 1 (rowsN .u64 (l.map Int.toNat))) := by
  refine pcall_go Try.func25 comp_req_numbers ?_
  simp (config := {maxSteps := 4000000}) only [U_req_numbers, reduceIte, reduceCtorEq, Nat.reduceEqDiff, Nat.reduceAdd, Int.reduceLT, Int.reduceLE, Int.reduceNeg, Int.reduceEq, Nat.reduceLT, Nat.reduceSub, Nat.reduceMul, Nat.reduceBEq, Nat.reduceLeDiff, Int.reduceBEq, Int.reduceBNe, Int.reduceToNat, ne_eq, implies_true, bA]
  refine loopF (fun x : Nat × List Nat => ⟨ofL [(3, .osl 0 0 x.2.length), (6, .slc (rowsZ .i64 l)), (7, .int .i64 l.length), (8, .int .i64 x.1)], [.list 1 (rowsN .u64 x.2)]⟩)
    (fun x => x.1 ≤ l.length ∧ x.2 = (l.take x.1).map Int.toNat) (fun x => l.length - x.1) (0, []) ?_ ⟨Nat.zero_le _, rfl⟩ ?_
  · simp (config := {maxSteps := 4000000}) only [U_req_numbers, rowsN_nil, reduceIte, reduceCtorEq, Nat.reduceEqDiff, Nat.reduceAdd, Int.reduceLT, Int.reduceLE, Int.reduceNeg, Int.reduceEq, Nat.reduceLT, Nat.reduceSub, Nat.reduceMul, Nat.reduceBEq, Nat.reduceLeDiff, Int.reduceBEq, Int.reduceBNe, Int.reduceToNat, ne_eq, implies_true, bA]
    all_goals rfl
  · intro ⟨i, ns⟩ ⟨hi, h1⟩
    simp only [] at hi h1 ⊢
    have hnl : ns.length = i := by rw [h1]; simp; omega
    by_cases h : i < l.length
    · have d : decide ((i : Int) < (l.length : Int)) = true := by simpa using h
      have e1 : IntKind.i64.wrap ((i : Int) + 1) = ((i + 1 : Nat) : Int) := by rw [wrapI (by omega) (by omega)]; omega
      have hx := h0 _ (List.getElem_mem h)
      have e2 : IntKind.u64.wrap l[i] = ((l[i].toNat : Nat) : Int) := wrapU_nat hx.1 hx.2
      simp (config := {maxSteps := 4000000}) only [U_req_numbers, d, islV_Z h, e2, app_N (k := .u64) (l := ns) (ob := [AObj.list 1 (rowsN .u64 ns)]) (o := 0) (n := ns.length) (fb := []) (x := l[i].toNat) rfl rfl rfl (by omega), e1, reduceIte, reduceCtorEq, Nat.reduceEqDiff, Nat.reduceAdd, Int.reduceLT, Int.reduceLE, Int.reduceNeg, Int.reduceEq, Nat.reduceLT, Nat.reduceSub, Nat.reduceMul, Nat.reduceBEq, Nat.reduceLeDiff, Int.reduceBEq, Int.reduceBNe, Int.reduceToNat, ne_eq, implies_true, bA]
      refine ⟨(i + 1, ns ++ [l[i].toNat]), ?_, ⟨h, ?_⟩, by show l.length - (i + 1) < l.length - i; omega⟩
      · simp only [List.length_append, List.length_cons, List.length_nil]
      · show ns ++ [l[i].toNat] = _
        rw [List.take_succ_eq_append_getElem h, List.map_append, ← h1]; rfl
    · have d : decide ((i : Int) < (l.length : Int)) = false := by simpa using h
      have : i = l.length := by omega
      subst this
      have hr : ns = l.map Int.toNat := by rw [h1, List.take_length]
      have hll : (rowsN .u64 (l.map Int.toNat)).length = l.length := by rw [rowsN_len, List.length_map]
      simp (config := {maxSteps := 4000000}) only [U_req_numbers, d, hnl, hr, reduceIte, reduceCtorEq, Nat.reduceEqDiff, Nat.reduceAdd, Int.reduceLT, Int.reduceLE, Int.reduceNeg, Int.reduceEq, Nat.reduceLT, Nat.reduceSub, Nat.reduceMul, Nat.reduceBEq, Nat.reduceLeDiff, Int.reduceBEq, Int.reduceBNe, Int.reduceToNat, ne_eq, implies_true, bA]
      exact retO_list hll.symm
theorem eqR (a b : Rq) : ((a.op == b.op) && ((a.id == b.id) && ((a.fr == b.fr) && ((a.n == b.n) && (a.da == b.da))))) = decide (a = b) := by
  cases a; cases b; rw [Bool.eq_iff_iff]; simp
theorem all3 (a b c : Int) : ([a, b, c].all fun n => inS n 4294967295) = (inS a 4294967295 && (inS b 4294967295 && inS c 4294967295)) := by simp
theorem all2 (a b : Int) : ([a, b].all fun n => inS n 4294967295) = (inS a 4294967295 && inS b 4294967295) := by simp
theorem write_spec (q : Rq) (hb : q.da.length ≤ 9223372036854775807) : PCall Try.prog 12 [pR q] (.tup [.str (writeR q).1, .int .i64 (writeR q).2]) := by
  refine pcall_go Try.func12 comp_req_Write ?_
  simp (config := {maxSteps := 4000000}) only [U_req_Write, rowR, reduceIte, reduceCtorEq, Nat.reduceEqDiff, Nat.reduceAdd, Int.reduceLT, Int.reduceLE, Int.reduceNeg, Int.reduceEq, Nat.reduceLT, Nat.reduceSub, Nat.reduceMul, Nat.reduceBEq, Nat.reduceLeDiff, Int.reduceBEq, Int.reduceBNe, Int.reduceToNat, ne_eq, implies_true, bA]
  refine callI (named_spec q) ?_
  have hno : mayR q = false → writeR q = ([], 1) := fun h => by rw [writeR, if_neg (by rw [h]; simp)]
  by_cases hs : (namedS q).2 = true
  · by_cases he : (namedS q).1 = q
    · rw [he]
      have hq := eqR q q
      rw [decide_eq_true rfl] at hq
      simp (config := {maxSteps := 4000000}) only [U_req_Write, rowR, hs, hq, beq_self_eq_true, reduceIte, reduceCtorEq, Nat.reduceEqDiff, Nat.reduceAdd, Int.reduceLT, Int.reduceLE, Int.reduceNeg, Int.reduceEq, Nat.reduceLT, Nat.reduceSub, Nat.reduceMul, Nat.reduceBEq, Nat.reduceLeDiff, Int.reduceBEq, Int.reduceBNe, Int.reduceToNat, ne_eq, implies_true, bA]
      refine callI (small_spec [q.id, q.fr, q.n] (by simp)) ?_
      rw [all3]
      cases hi : (inS q.id 4294967295 && (inS q.fr 4294967295 && inS q.n 4294967295)) with
      | true =>
        by_cases hlen : q.da.length ≤ 512
        · have d1 : decide ((512 : Int) < (q.da.length : Int)) = false := by simp; omega
          have hm : mayR q = true := by
            simp only [Bool.and_eq_true] at hi
            simp [mayR, hs, he, hi, hlen]
          obtain ⟨a, _, c, d, e, f⟩ := mayR_iff.1 hm
          have ho := named_op a
          simp (config := {maxSteps := 4000000}) only [U_req_Write, rowR, d1, reduceIte, reduceCtorEq, Nat.reduceEqDiff, Nat.reduceAdd, Int.reduceLT, Int.reduceLE, Int.reduceNeg, Int.reduceEq, Nat.reduceLT, Nat.reduceSub, Nat.reduceMul, Nat.reduceBEq, Nat.reduceLeDiff, Int.reduceBEq, Int.reduceBNe, Int.reduceToNat, ne_eq, implies_true, bA]
          refine callI (numbers_spec [q.op, q.id, q.fr, q.n, (q.da.length : Int)] (by simp) (by
            intro x hx
            simp only [List.mem_cons, List.not_mem_nil, or_false] at hx
            rcases hx with rfl | rfl | rfl | rfl | rfl <;> omega)) ?_
          simp (config := {maxSteps := 4000000}) only [U_req_Write, rowR, reduceIte, reduceCtorEq, Nat.reduceEqDiff, Nat.reduceAdd, Int.reduceLT, Int.reduceLE, Int.reduceNeg, Int.reduceEq, Nat.reduceLT, Nat.reduceSub, Nat.reduceMul, Nat.reduceBEq, Nat.reduceLeDiff, Int.reduceBEq, Int.reduceBNe, Int.reduceToNat, ne_eq, implies_true, bA]
          refine callI head_spec ?_
          simp (config := {maxSteps := 4000000}) only [U_req_Write, rowR, reduceIte, reduceCtorEq, Nat.reduceEqDiff, Nat.reduceAdd, Int.reduceLT, Int.reduceLE, Int.reduceNeg, Int.reduceEq, Nat.reduceLT, Nat.reduceSub, Nat.reduceMul, Nat.reduceBEq, Nat.reduceLeDiff, Int.reduceBEq, Int.reduceBNe, Int.reduceToNat, ne_eq, implies_true, bA]
          refine callI (row_spec [q.op.toNat, q.id.toNat, q.fr.toNat, q.n.toNat, q.da.length] [1, 4, 4, 4, 2] (by simp) (by simp) (by
            intro x hx
            simp only [List.mem_cons, List.not_mem_nil, or_false] at hx
            rcases hx with rfl | rfl | rfl | rfl | rfl <;> omega)) ?_
          rw [row_req q hm]
          have hl := headR_len q
          have f1 : binS .add (headR q) q.da = some (.str (bodyR q)) := by rw [binS, if_pos (by omega)]; rfl
          simp (config := {maxSteps := 4000000}) only [U_req_Write, rowR, f1, reduceIte, reduceCtorEq, Nat.reduceEqDiff, Nat.reduceAdd, Int.reduceLT, Int.reduceLE, Int.reduceNeg, Int.reduceEq, Nat.reduceLT, Nat.reduceSub, Nat.reduceMul, Nat.reduceBEq, Nat.reduceLeDiff, Int.reduceBEq, Int.reduceBNe, Int.reduceToNat, ne_eq, implies_true, bA]
          have hwr : writeR q = (sealS (bodyR q), 0) := by rw [writeR, if_pos hm]
          rw [hwr]
          refine callI (seal_spec (bodyR q) (by rw [bodyR_len]; omega)) ?_
          simp (config := {maxSteps := 4000000}) only [U_req_Write, reduceIte, reduceCtorEq, Nat.reduceEqDiff, Nat.reduceAdd, Int.reduceLT, Int.reduceLE, Int.reduceNeg, Int.reduceEq, Nat.reduceLT, Nat.reduceSub, Nat.reduceMul, Nat.reduceBEq, Nat.reduceLeDiff, Int.reduceBEq, Int.reduceBNe, Int.reduceToNat, ne_eq, implies_true, bA]
        · have d1 : decide ((512 : Int) < (q.da.length : Int)) = true := by simp; omega
          rw [hno (by simp [mayR, hlen])]
          simp (config := {maxSteps := 4000000}) only [U_req_Write, rowR, d1, reduceIte, reduceCtorEq, Nat.reduceEqDiff, Nat.reduceAdd, Int.reduceLT, Int.reduceLE, Int.reduceNeg, Int.reduceEq, Nat.reduceLT, Nat.reduceSub, Nat.reduceMul, Nat.reduceBEq, Nat.reduceLeDiff, Int.reduceBEq, Int.reduceBNe, Int.reduceToNat, ne_eq, implies_true, bA]
      | false =>
        rw [hno (by rw [← Bool.not_eq_true, mayR_iff]; rintro ⟨_, _, c, d, e, _⟩; rw [inS_iff.2 c, inS_iff.2 d, inS_iff.2 e] at hi; cases hi)]
        simp (config := {maxSteps := 4000000}) only [U_req_Write, rowR, reduceIte, reduceCtorEq, Nat.reduceEqDiff, Nat.reduceAdd, Int.reduceLT, Int.reduceLE, Int.reduceNeg, Int.reduceEq, Nat.reduceLT, Nat.reduceSub, Nat.reduceMul, Nat.reduceBEq, Nat.reduceLeDiff, Int.reduceBEq, Int.reduceBNe, Int.reduceToNat, ne_eq, implies_true, bA]
    · have hq := eqR (namedS q).1 q
      rw [decide_eq_false he] at hq
      rw [hno (by simp [mayR, he])]
      simp (config := {maxSteps := 4000000}) only [U_req_Write, rowR, hs, hq, reduceIte, reduceCtorEq, Nat.reduceEqDiff, Nat.reduceAdd, Int.reduceLT, Int.reduceLE, Int.reduceNeg, Int.reduceEq, Nat.reduceLT, Nat.reduceSub, Nat.reduceMul, Nat.reduceBEq, Nat.reduceLeDiff, Int.reduceBEq, Int.reduceBNe, Int.reduceToNat, ne_eq, implies_true, bA]
      all_goals first | rfl | simp [hq]
  · simp only [Bool.not_eq_true] at hs
    rw [hno (by simp [mayR, hs])]
    simp (config := {maxSteps := 4000000}) only [U_req_Write, rowR, hs, reduceIte, reduceCtorEq, Nat.reduceEqDiff, Nat.reduceAdd, Int.reduceLT, Int.reduceLE, Int.reduceNeg, Int.reduceEq, Nat.reduceLT, Nat.reduceSub, Nat.reduceMul, Nat.reduceBEq, Nat.reduceLeDiff, Int.reduceBEq, Int.reduceBNe, Int.reduceToNat, ne_eq, implies_true, bA]
end Go.Proofs.Ytoofeppepahpfaa.Aw
