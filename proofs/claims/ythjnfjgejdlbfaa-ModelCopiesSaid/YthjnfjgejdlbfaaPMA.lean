/-
  The model's small functions: sizes, failures, names, how many sectors a request names.; The model: how many sectors are charged, how many are holes.; The model: making holes.; Which sector has a number, behind a laying and behind a cut.
-/
import Derived.Test.YthjnfjgejdlbfaaPMod
set_option linter.all false
set_option linter.unusedSimpArgs false
set_option linter.unusedVariables false
namespace Go.Proofs.Ythjnfjgejdlbfaa.Aw
open Go.RowKit

structure Rq where
  op : Int
  id : Int
  fr : Int
  n : Int
  d : List UInt8
abbrev rowQ (q : Rq) : List PV := [.int .i64 q.op, .int .i64 q.id, .int .i64 q.fr, .int .i64 q.n, .str q.d]
abbrev pQ (q : Rq) : PV := .agg (rowQ q)
abbrev repP (e : Int) (d : List UInt8) (sz us : Int) (ids : PV) : PV := .agg [.int .i64 e, .str d, .int .i64 sz, .int .i64 us, ids]
abbrev failP (e : Int) : PV := repP e [] 0 0 (.slc [])

theorem sized_spec (n : Int) : PCall Try.prog 25 [.int .i64 n] (.bool (decide (0 ≤ n) && decide (n ≤ 16777216))) := by
  refine pcall_dr Try.func25 comp_model_sized ?_
  by_cases h0 : 0 ≤ n
  · have d : decide (0 ≤ n) = true := by simpa using h0
    simp (config := {maxSteps := 4000000}) only [U_model_sized, d, Bool.true_and, reduceIte, reduceCtorEq, Nat.reduceEqDiff, Nat.reduceAdd, Int.reduceLT, Int.reduceLE, Int.reduceNeg, Int.reduceEq, Nat.reduceLT, Nat.reduceSub, Nat.reduceMul, Nat.reduceBEq, Nat.reduceLeDiff, Int.reduceBEq, Int.reduceBNe, Int.reduceToNat, ne_eq, implies_true, bA]
  · have d : decide (0 ≤ n) = false := by simpa using h0
    simp (config := {maxSteps := 4000000}) only [U_model_sized, d, Bool.false_and, reduceIte, reduceCtorEq, Nat.reduceEqDiff, Nat.reduceAdd, Int.reduceLT, Int.reduceLE, Int.reduceNeg, Int.reduceEq, Nat.reduceLT, Nat.reduceSub, Nat.reduceMul, Nat.reduceBEq, Nat.reduceLeDiff, Int.reduceBEq, Int.reduceBNe, Int.reduceToNat, ne_eq, implies_true, bA]
theorem sized_no {n : Int} (h : n < 0 ∨ 16777216 < n) : PCall Try.prog 25 [.int .i64 n] (.bool false) := by
  have := sized_spec n
  rw [show (decide (0 ≤ n) && decide (n ≤ 16777216)) = false by rw [Bool.and_eq_false_iff]; simp; omega] at this
  exact this
theorem sized_yes {n : Int} (h : ¬ (n < 0 ∨ 16777216 < n)) : PCall Try.prog 25 [.int .i64 n] (.bool true) := by
  have := sized_spec n
  rw [show (decide (0 ≤ n) && decide (n ≤ 16777216)) = true by rw [Bool.and_eq_true]; simp; omega] at this
  exact this
theorem fail_spec (e : Int) : PCall Try.prog 26 [.int .i64 e] (failP e) := by
  refine pcall_dr Try.func26 comp_model_fail ?_
  simp (config := {maxSteps := 4000000}) only [U_model_fail, reduceIte, reduceCtorEq, Nat.reduceEqDiff, Nat.reduceAdd, Int.reduceLT, Int.reduceLE, Int.reduceNeg, Int.reduceEq, Nat.reduceLT, Nat.reduceSub, Nat.reduceMul, Nat.reduceBEq, Nat.reduceLeDiff, Int.reduceBEq, Int.reduceBNe, Int.reduceToNat, ne_eq, implies_true, bA]
theorem name_no {op : Int} (h : op < 1 ∨ 10 < op) : PCall Try.prog 24 [.int .i64 op] (.str [63]) := by
  refine pcall_dr Try.func24 comp_req_Name ?_
  by_cases h0 : op < 1
  · have d : decide (op < 1) = true := by simpa using h0
    simp (config := {maxSteps := 4000000}) only [U_req_Name, d, reduceIte, reduceCtorEq, Nat.reduceEqDiff, Nat.reduceAdd, Int.reduceLT, Int.reduceLE, Int.reduceNeg, Int.reduceEq, Nat.reduceLT, Nat.reduceSub, Nat.reduceMul, Nat.reduceBEq, Nat.reduceLeDiff, Int.reduceBEq, Int.reduceBNe, Int.reduceToNat, ne_eq, implies_true, bA]
  · have d : decide (op < 1) = false := by simpa using h0
    have d2 : decide (10 < op) = true := by simp; omega
    simp (config := {maxSteps := 4000000}) only [U_req_Name, d, d2, reduceIte, reduceCtorEq, Nat.reduceEqDiff, Nat.reduceAdd, Int.reduceLT, Int.reduceLE, Int.reduceNeg, Int.reduceEq, Nat.reduceLT, Nat.reduceSub, Nat.reduceMul, Nat.reduceBEq, Nat.reduceLeDiff, Int.reduceBEq, Int.reduceBNe, Int.reduceToNat, ne_eq, implies_true, bA]
theorem name_yes {op : Int} (h : ¬ (op < 1 ∨ 10 < op)) : ∃ s, PCall Try.prog 24 [.int .i64 op] (.str s) ∧ (s == [63]) = false := by
  have hh : op = 1 ∨ op = 2 ∨ op = 3 ∨ op = 4 ∨ op = 5 ∨ op = 6 ∨ op = 7 ∨ op = 8 ∨ op = 9 ∨ op = 10 := by omega
  have go : ∀ {op : Int} {s : List UInt8}, AWP Try.prog 0 ac_req_Name (AFin [.t 2] (.str s)) (init [.int .i64 op]) → PCall Try.prog 24 [.int .i64 op] (.str s) := fun h => pcall_dr Try.func24 comp_req_Name h
  rcases hh with rfl | rfl | rfl | rfl | rfl | rfl | rfl | rfl | rfl | rfl
  · refine ⟨[99, 114, 101, 97, 116, 101], go ?_, by decide⟩
    simp (config := {maxSteps := 4000000}) only [U_req_Name, idxaV_at, reduceIte, reduceCtorEq, Nat.reduceEqDiff, Nat.reduceAdd, Int.reduceLT, Int.reduceLE, Int.reduceNeg, Int.reduceEq, Nat.reduceLT, Nat.reduceSub, Nat.reduceMul, Nat.reduceBEq, Nat.reduceLeDiff, Int.reduceBEq, Int.reduceBNe, Int.reduceToNat, ne_eq, implies_true, bA]
  · refine ⟨[114, 101, 115, 105, 122, 101], go ?_, by decide⟩
    simp (config := {maxSteps := 4000000}) only [U_req_Name, idxaV_at, reduceIte, reduceCtorEq, Nat.reduceEqDiff, Nat.reduceAdd, Int.reduceLT, Int.reduceLE, Int.reduceNeg, Int.reduceEq, Nat.reduceLT, Nat.reduceSub, Nat.reduceMul, Nat.reduceBEq, Nat.reduceLeDiff, Int.reduceBEq, Int.reduceBNe, Int.reduceToNat, ne_eq, implies_true, bA]
  · refine ⟨[100, 101, 108, 101, 116, 101], go ?_, by decide⟩
    simp (config := {maxSteps := 4000000}) only [U_req_Name, idxaV_at, reduceIte, reduceCtorEq, Nat.reduceEqDiff, Nat.reduceAdd, Int.reduceLT, Int.reduceLE, Int.reduceNeg, Int.reduceEq, Nat.reduceLT, Nat.reduceSub, Nat.reduceMul, Nat.reduceBEq, Nat.reduceLeDiff, Int.reduceBEq, Int.reduceBNe, Int.reduceToNat, ne_eq, implies_true, bA]
  · refine ⟨[119, 114, 105, 116, 101], go ?_, by decide⟩
    simp (config := {maxSteps := 4000000}) only [U_req_Name, idxaV_at, reduceIte, reduceCtorEq, Nat.reduceEqDiff, Nat.reduceAdd, Int.reduceLT, Int.reduceLE, Int.reduceNeg, Int.reduceEq, Nat.reduceLT, Nat.reduceSub, Nat.reduceMul, Nat.reduceBEq, Nat.reduceLeDiff, Int.reduceBEq, Int.reduceBNe, Int.reduceToNat, ne_eq, implies_true, bA]
  · refine ⟨[122, 101, 114, 111], go ?_, by decide⟩
    simp (config := {maxSteps := 4000000}) only [U_req_Name, idxaV_at, reduceIte, reduceCtorEq, Nat.reduceEqDiff, Nat.reduceAdd, Int.reduceLT, Int.reduceLE, Int.reduceNeg, Int.reduceEq, Nat.reduceLT, Nat.reduceSub, Nat.reduceMul, Nat.reduceBEq, Nat.reduceLeDiff, Int.reduceBEq, Int.reduceBNe, Int.reduceToNat, ne_eq, implies_true, bA]
  · refine ⟨[116, 114, 105, 109], go ?_, by decide⟩
    simp (config := {maxSteps := 4000000}) only [U_req_Name, idxaV_at, reduceIte, reduceCtorEq, Nat.reduceEqDiff, Nat.reduceAdd, Int.reduceLT, Int.reduceLE, Int.reduceNeg, Int.reduceEq, Nat.reduceLT, Nat.reduceSub, Nat.reduceMul, Nat.reduceBEq, Nat.reduceLeDiff, Int.reduceBEq, Int.reduceBNe, Int.reduceToNat, ne_eq, implies_true, bA]
  · refine ⟨[114, 101, 97, 100], go ?_, by decide⟩
    simp (config := {maxSteps := 4000000}) only [U_req_Name, idxaV_at, reduceIte, reduceCtorEq, Nat.reduceEqDiff, Nat.reduceAdd, Int.reduceLT, Int.reduceLE, Int.reduceNeg, Int.reduceEq, Nat.reduceLT, Nat.reduceSub, Nat.reduceMul, Nat.reduceBEq, Nat.reduceLeDiff, Int.reduceBEq, Int.reduceBNe, Int.reduceToNat, ne_eq, implies_true, bA]
  · refine ⟨[102, 108, 117, 115, 104], go ?_, by decide⟩
    simp (config := {maxSteps := 4000000}) only [U_req_Name, idxaV_at, reduceIte, reduceCtorEq, Nat.reduceEqDiff, Nat.reduceAdd, Int.reduceLT, Int.reduceLE, Int.reduceNeg, Int.reduceEq, Nat.reduceLT, Nat.reduceSub, Nat.reduceMul, Nat.reduceBEq, Nat.reduceLeDiff, Int.reduceBEq, Int.reduceBNe, Int.reduceToNat, ne_eq, implies_true, bA]
  · refine ⟨[105, 110, 102, 111], go ?_, by decide⟩
    simp (config := {maxSteps := 4000000}) only [U_req_Name, idxaV_at, reduceIte, reduceCtorEq, Nat.reduceEqDiff, Nat.reduceAdd, Int.reduceLT, Int.reduceLE, Int.reduceNeg, Int.reduceEq, Nat.reduceLT, Nat.reduceSub, Nat.reduceMul, Nat.reduceBEq, Nat.reduceLeDiff, Int.reduceBEq, Int.reduceBNe, Int.reduceToNat, ne_eq, implies_true, bA]
  · refine ⟨[108, 105, 115, 116], go ?_, by decide⟩
    simp (config := {maxSteps := 4000000}) only [U_req_Name, idxaV_at, reduceIte, reduceCtorEq, Nat.reduceEqDiff, Nat.reduceAdd, Int.reduceLT, Int.reduceLE, Int.reduceNeg, Int.reduceEq, Nat.reduceLT, Nat.reduceSub, Nat.reduceMul, Nat.reduceBEq, Nat.reduceLeDiff, Int.reduceBEq, Int.reduceBNe, Int.reduceToNat, ne_eq, implies_true, bA]

/- how many sectors -/
def wN (q : Rq) : Int := if q.op = 4 then ((q.d.length / 32 : Nat) : Int) else q.n
def wB (q : Rq) : Bool := decide (1 ≤ wN q) && ((!(decide (q.op = 4) || decide (q.op = 7)) || decide (wN q ≤ 8)) && (!decide (q.op = 4) || decide (q.d.length % 32 = 0)))
theorem whole_spec (q : Rq) (hd : q.d.length ≤ 1000) : PCall Try.prog 51 [pQ q] (.tup [.int .i64 (wN q), .bool (wB q)]) := by
  refine pcall_dr Try.func51 comp_model_whole ?_
  have t1 := tdivN q.d.length 32
  have t2 := tmodN q.d.length 32
  simp only [Int.cast_ofNat_Int] at t1 t2
  have e1 : IntKind.i64.wrap ((q.d.length / 32 : Nat) : Int) = ((q.d.length / 32 : Nat) : Int) := wrapI (by omega) (by omega)
  by_cases c4 : q.op = 4
  · have d4 : (q.op == 4) = true := by simpa using c4
    have hw : wN q = ((q.d.length / 32 : Nat) : Int) := if_pos c4
    have hb : wB q = (decide (1 ≤ ((q.d.length / 32 : Nat) : Int)) && (decide (((q.d.length / 32 : Nat) : Int) ≤ 8) && decide (q.d.length % 32 = 0))) := by simp [wB, hw, c4]
    rw [hb, hw]
    by_cases c1 : (1 : Int) ≤ ((q.d.length / 32 : Nat) : Int)
    · have d1 : decide ((1 : Int) ≤ ((q.d.length / 32 : Nat) : Int)) = true := by simpa using c1
      by_cases c8 : ((q.d.length / 32 : Nat) : Int) ≤ 8
      · have d8 : decide (((q.d.length / 32 : Nat) : Int) ≤ 8) = true := by simpa using c8
        have d0 : (((q.d.length % 32 : Nat) : Int) == 0) = decide (q.d.length % 32 = 0) := by
          by_cases c : q.d.length % 32 = 0
          · simp [c]
          · rw [show (((q.d.length % 32 : Nat) : Int) == 0) = false by rw [beq_eq_false_iff_ne]; omega, decide_eq_false c]
        simp (config := {maxSteps := 4000000}) only [U_model_whole, d4, t1, t2, e1, d1, d8, d0, reduceIte, reduceCtorEq, Nat.reduceEqDiff, Nat.reduceAdd, Int.reduceLT, Int.reduceLE, Int.reduceNeg, Int.reduceEq, Nat.reduceLT, Nat.reduceSub, Nat.reduceMul, Nat.reduceBEq, Nat.reduceLeDiff, Int.reduceBEq, Int.reduceBNe, Int.reduceToNat, ne_eq, implies_true, bA]
      · have d8 : decide (((q.d.length / 32 : Nat) : Int) ≤ 8) = false := by simpa using c8
        simp (config := {maxSteps := 4000000}) only [U_model_whole, d4, t1, t2, e1, d1, d8, reduceIte, reduceCtorEq, Nat.reduceEqDiff, Nat.reduceAdd, Int.reduceLT, Int.reduceLE, Int.reduceNeg, Int.reduceEq, Nat.reduceLT, Nat.reduceSub, Nat.reduceMul, Nat.reduceBEq, Nat.reduceLeDiff, Int.reduceBEq, Int.reduceBNe, Int.reduceToNat, ne_eq, implies_true, bA]
    · have d1 : decide ((1 : Int) ≤ ((q.d.length / 32 : Nat) : Int)) = false := by simpa using c1
      simp (config := {maxSteps := 4000000}) only [U_model_whole, d4, t1, t2, e1, d1, reduceIte, reduceCtorEq, Nat.reduceEqDiff, Nat.reduceAdd, Int.reduceLT, Int.reduceLE, Int.reduceNeg, Int.reduceEq, Nat.reduceLT, Nat.reduceSub, Nat.reduceMul, Nat.reduceBEq, Nat.reduceLeDiff, Int.reduceBEq, Int.reduceBNe, Int.reduceToNat, ne_eq, implies_true, bA]
  · have d4 : (q.op == 4) = false := by simpa using c4
    have hw : wN q = q.n := if_neg c4
    by_cases c7 : q.op = 7
    · have d7 : (q.op == 7) = true := by simpa using c7
      have hb : wB q = (decide (1 ≤ q.n) && decide (q.n ≤ 8)) := by simp [wB, hw, c7]
      rw [hb, hw]
      by_cases c1 : 1 ≤ q.n
      · have d1 : decide (1 ≤ q.n) = true := by simpa using c1
        simp (config := {maxSteps := 4000000}) only [U_model_whole, d4, d7, d1, reduceIte, reduceCtorEq, Nat.reduceEqDiff, Nat.reduceAdd, Int.reduceLT, Int.reduceLE, Int.reduceNeg, Int.reduceEq, Nat.reduceLT, Nat.reduceSub, Nat.reduceMul, Nat.reduceBEq, Nat.reduceLeDiff, Int.reduceBEq, Int.reduceBNe, Int.reduceToNat, ne_eq, implies_true, bA]
      · have d1 : decide (1 ≤ q.n) = false := by simpa using c1
        simp (config := {maxSteps := 4000000}) only [U_model_whole, d4, d7, d1, reduceIte, reduceCtorEq, Nat.reduceEqDiff, Nat.reduceAdd, Int.reduceLT, Int.reduceLE, Int.reduceNeg, Int.reduceEq, Nat.reduceLT, Nat.reduceSub, Nat.reduceMul, Nat.reduceBEq, Nat.reduceLeDiff, Int.reduceBEq, Int.reduceBNe, Int.reduceToNat, ne_eq, implies_true, bA]
    · have d7 : (q.op == 7) = false := by simpa using c7
      have hb : wB q = decide (1 ≤ q.n) := by simp [wB, hw, c7, c4]
      rw [hb, hw]
      simp (config := {maxSteps := 4000000}) only [U_model_whole, d4, d7, reduceIte, reduceCtorEq, Nat.reduceEqDiff, Nat.reduceAdd, Int.reduceLT, Int.reduceLE, Int.reduceNeg, Int.reduceEq, Nat.reduceLT, Nat.reduceSub, Nat.reduceMul, Nat.reduceBEq, Nat.reduceLeDiff, Int.reduceBEq, Int.reduceBNe, Int.reduceToNat, ne_eq, implies_true, bA]

theorem ap0 (ob l : List AObj) : (ob ++ l)[ob.length]? = l[0]? := by rw [List.getElem?_append_right (Nat.le_refl _)]; simp
theorem ap1 (ob l : List AObj) : (ob ++ l)[ob.length + 1]? = l[1]? := by rw [List.getElem?_append_right (by omega)]; simp
theorem ap2 (ob l : List AObj) : (ob ++ l)[ob.length + 2]? = l[2]? := by rw [List.getElem?_append_right (by omega)]; simp
theorem ap3 (ob l : List AObj) : (ob ++ l)[ob.length + 3]? = l[3]? := by rw [List.getElem?_append_right (by omega)]; simp
theorem st0 (ob l : List AObj) (x : AObj) : (ob ++ l).set ob.length x = ob ++ l.set 0 x := by rw [List.set_append_right _ _ (Nat.le_refl _)]; simp
theorem st1 (ob l : List AObj) (x : AObj) : (ob ++ l).set (ob.length + 1) x = ob ++ l.set 1 x := by rw [List.set_append_right _ _ (by omega)]; simp
theorem st2 (ob l : List AObj) (x : AObj) : (ob ++ l).set (ob.length + 2) x = ob ++ l.set 2 x := by rw [List.set_append_right _ _ (by omega)]; simp
theorem st3 (ob l : List AObj) (x : AObj) : (ob ++ l).set (ob.length + 3) x = ob ++ l.set 3 x := by rw [List.set_append_right _ _ (by omega)]; simp
theorem apL {ob : List AObj} {i : Nat} {a : AObj} (h : ob[i]? = some a) (l : List AObj) : (ob ++ l)[i]? = some a := by rw [List.getElem?_append_left (lt_of_get h)]; exact h

/- sums over what was seen -/
def entL (e : SpE) : Nat × Int × PV := (e.born, e.s.id, .int .i64 (e.es.length : Int))
def wtL (x : Nat × Int × PV) : Nat :=
  match x.2.2 with
  | .int _ n => n.toNat
  | _ => 0
def sumW (es : Ents) : Nat := (es.map wtL).sum
theorem sumW_perm {a b : Ents} (h : a.Perm b) : sumW a = sumW b := (h.map wtL).sum_nat
theorem sumW_le (p : (Nat × Int × PV) → Bool) : ∀ (l : Ents), sumW (l.filter p) ≤ sumW l
  | [] => Nat.le_refl _
  | x :: r => by
    have := sumW_le p r
    simp only [sumW] at this ⊢
    rw [List.filter_cons]
    split <;> simp only [List.map_cons, List.sum_cons] <;> omega
theorem usedV_sum : ∀ (A : List Spc), usedV A = (((A.map fun s => s.S.length).sum : Nat) : Int)
  | [] => rfl
  | a :: r => by simp only [usedV, List.map_cons, List.sum_cons, usedV_sum r]; omega
theorem sumW_E {E : List SpE} : sumW (E.map entL) = (E.map fun e => e.es.length).sum := by
  rw [sumW, List.map_map]
  congr 1
theorem left_iff {seen : List Nat} {E : List SpE} {f g : SpE → Nat × Int × PV} (hf : ∀ e, (f e).1 = (g e).1) : (mLeft seen (E.map f) = [] ↔ mLeft seen (E.map g) = []) := by
  simp only [mLeft, List.filter_eq_nil_iff, List.mem_map]
  constructor
  · rintro h x ⟨e, he, rfl⟩; have := h (f e) ⟨e, he, rfl⟩; rwa [hf e] at this
  · rintro h x ⟨e, he, rfl⟩; have := h (g e) ⟨e, he, rfl⟩; rwa [← hf e] at this
theorem ModAt.used {ob b m ck E cap A} (h : ModAt ob b m ck E cap A) : ((E.map fun e => e.es.length).sum : Nat) = ((A.map fun s => s.S.length).sum : Nat) := by
  rw [← ((h.mem.map fun s => s.S.length)).sum_nat, List.map_map]
  congr 1
  apply List.map_congr_left
  intro e he
  exact h.slen he
theorem used_r {ob b m ck E cap A} (h : ModAt ob b m ck E cap A) : RCall Try.prog 28 [.ref b 0] ob (.int .i64 (usedV A)) := by
  refine RCall.of (K := fun r ob' => r = .int .i64 (usedV A) ∧ ∃ ex, ob' = ob ++ ex) ?_ (fun r ob' h => h) rfl
  refine icall_dr Try.func28 comp_model_Model_used ?_
  have hb := h.hb
  have hm := h.hm
  have hmA := fun l => apL hm l
  have hE := h.used
  have hU := usedV_sum A
  have hu := h.vol.use
  have hc := h.vol.c1
  simp (config := {maxSteps := 4000000}) only [U_model_Model_used, hb, hm, reduceIte, reduceCtorEq, Nat.reduceEqDiff, Nat.reduceAdd, Int.reduceLT, Int.reduceLE, Int.reduceNeg, Int.reduceEq, Nat.reduceLT, Nat.reduceSub, Nat.reduceMul, Nat.reduceBEq, Nat.reduceLeDiff, Int.reduceBEq, Int.reduceBNe, Int.reduceToNat, ne_eq, implies_true, bA]
  refine loopF (fun seen : List Nat => ⟨ofL [(3, .int .i64 (sumW (seenE seen (E.map entL)) : Int)), (10, .ref ob.length 0)], ob ++ [.iter m ck seen ck]⟩) (fun _ => True) (fun seen => (mLeft seen (E.map entM)).length) [] ?_ trivial ?_
  · simp (config := {maxSteps := 4000000}) only [U_model_Model_used, reduceIte, reduceCtorEq, Nat.reduceEqDiff, Nat.reduceAdd, Int.reduceLT, Int.reduceLE, Int.reduceNeg, Int.reduceEq, Nat.reduceLT, Nat.reduceSub, Nat.reduceMul, Nat.reduceBEq, Nat.reduceLeDiff, Int.reduceBEq, Int.reduceBNe, Int.reduceToNat, ne_eq, implies_true, bA]
    simp only [seenE_nil]
    rfl
  · intro seen _
    simp (config := {maxSteps := 4000000}) only [U_model_Model_used, ap0, hmA, reduceIte, reduceCtorEq, Nat.reduceEqDiff, Nat.reduceAdd, Int.reduceLT, Int.reduceLE, Int.reduceNeg, Int.reduceEq, Nat.reduceLT, Nat.reduceSub, Nat.reduceMul, Nat.reduceBEq, Nat.reduceLeDiff, Int.reduceBEq, Int.reduceBNe, Int.reduceToNat, ne_eq, implies_true, bA]
    refine ⟨h.ok.lt, Nat.le_refl _, fun hl => ?_, fun e he => ?_⟩
    · have hs : seenE seen (E.map entL) = E.map entL := seenE_all ((left_iff (f := entM) (g := entL) fun _ => rfl).1 hl)
      have e1 : ((sumW (seenE seen (E.map entL)) : Nat) : Int) = usedV A := by rw [hs, sumW_E, hE, hU]
      simp (config := {maxSteps := 4000000}) only [U_model_Model_used, e1, reduceIte, reduceCtorEq, Nat.reduceEqDiff, Nat.reduceAdd, Int.reduceLT, Int.reduceLE, Int.reduceNeg, Int.reduceEq, Nat.reduceLT, Nat.reduceSub, Nat.reduceMul, Nat.reduceBEq, Nat.reduceLeDiff, Int.reduceBEq, Int.reduceBNe, Int.reduceToNat, ne_eq, implies_true, bA]
      exact ⟨_, rfl, rfl, _, rfl⟩
    · obtain ⟨he1, he2⟩ := mem_left.1 he
      obtain ⟨x, hx, rfl⟩ := List.mem_map.1 he1
      have hf := find_entry h.ok.nd he1
      have hs := fun l => apL (h.sp x hx) l
      have hp := fun l => apL (h.mp x hx) l
      have hl2 : entL x ∈ mLeft seen (E.map entL) := mem_left.2 ⟨List.mem_map_of_mem hx, he2⟩
      have hnd : ((E.map entL).map (·.1)).Nodup := by have := h.ok.nd; rw [List.map_map] at this ⊢; exact this
      have hst := sumW_perm (seenE_step hnd hl2)
      have hle : sumW (seenE (seen ++ [x.born]) (E.map entL)) ≤ sumW (E.map entL) := sumW_le _ _
      have hw : sumW (entL x :: seenE seen (E.map entL)) = x.es.length + sumW (seenE seen (E.map entL)) := by simp [sumW, wtL, entL]
      rw [sumW_E] at hle
      have e1 : IntKind.i64.wrap ((sumW (seenE seen (E.map entL)) : Int) + (x.es.length : Int)) = (sumW (seenE (seen ++ [x.born]) (E.map entL)) : Int) := by
        have h3 : sumW (seenE (seen ++ [x.born]) (E.map entL)) = x.es.length + sumW (seenE seen (E.map entL)) := hst.trans hw
        rw [wrapI (by omega) (by omega)]; omega
      simp only [entM] at hf
      simp (config := {maxSteps := 4000000}) only [U_model_Model_used, ap0, st0, hmA, hf, hs, hp, entM, e1, reduceIte, reduceCtorEq, Nat.reduceEqDiff, Nat.reduceAdd, Int.reduceLT, Int.reduceLE, Int.reduceNeg, Int.reduceEq, Nat.reduceLT, Nat.reduceSub, Nat.reduceMul, Nat.reduceBEq, Nat.reduceLeDiff, Int.reduceBEq, Int.reduceBNe, Int.reduceToNat, ne_eq, implies_true, bA]
      exact ⟨seen ++ [x.born], rfl, left_step he⟩

/- holes -/
def inR (fr n k : Int) : Bool := decide (fr ≤ k) && decide (k - fr < n)
theorem inS_count {S : List Sc} {fr n : Int} : inS S fr (fr + n) = ((S.map key).countP (inR fr n) : Int) := by
  have h1 : (cutS S fr (fr + n)).length + (S.map key).countP (inR fr n) = S.length := by
    rw [cutS, ← List.countP_eq_length_filter, List.countP_map]
    have := List.length_eq_countP_add_countP (p := fun x : Sc => decide (x.at_ < fr) || decide (fr + n ≤ x.at_)) (l := S)
    rw [this]
    congr 1
    apply List.countP_congr
    intro x _
    simp only [Function.comp, inR, key_sc]
    by_cases c1 : x.at_ < fr
    · simp [c1, Int.not_le.2 c1]
    · by_cases c2 : fr + n ≤ x.at_
      · have c3 : ¬ (x.at_ - fr < n) := by omega
        simp [c1, c2, c3]
      · have c3 : x.at_ - fr < n := by omega
        have c4 : fr ≤ x.at_ := by omega
        simp [c1, c2, c3, c4]
  unfold inS
  omega
theorem holes_r {ob : List AObj} {sb sm ck : Nat} {es : Ents} {S : List Sc} {size : Int} (hs : ob[sb]? = some (.box [.int .i64 size, .mp sm])) (hm : ob[sm]? = some (.map ck es)) (ok : MapOk ck es) (hp : (es.map (·.2.1)).Perm (S.map key))
    (hr : ∀ x ∈ S, 0 ≤ x.at_ ∧ x.at_ < 16777216) {fr n : Int} (hfr : 0 ≤ fr ∧ fr ≤ 16777216) (hn : 0 ≤ n ∧ n ≤ 16777216) :
    RCall Try.prog 73 [.ref sb 0, .int .i64 fr, .int .i64 n] ob (.int .i64 (n - inS S fr (fr + n))) := by
  refine RCall.of (K := fun r ob' => r = .int .i64 (n - inS S fr (fr + n)) ∧ ∃ ex, ob' = ob ++ ex) ?_ (fun r ob' h => h) rfl
  refine icall_dr Try.func73 comp_model_space_holes ?_
  have hmA := fun l => apL hm l
  have hkr : ∀ e ∈ es, 0 ≤ e.2.1 ∧ e.2.1 < 16777216 := by
    intro e he
    obtain ⟨x, hx, hxe⟩ := List.mem_map.1 (hp.mem_iff.1 (List.mem_map_of_mem (f := fun x : Nat × Int × PV => x.2.1) he))
    have := hr x hx
    rw [key_sc] at hxe
    omega
  have hsz := ok.sz
  simp (config := {maxSteps := 4000000}) only [U_model_space_holes, hs, hm, reduceIte, reduceCtorEq, Nat.reduceEqDiff, Nat.reduceAdd, Int.reduceLT, Int.reduceLE, Int.reduceNeg, Int.reduceEq, Nat.reduceLT, Nat.reduceSub, Nat.reduceMul, Nat.reduceBEq, Nat.reduceLeDiff, Int.reduceBEq, Int.reduceBNe, Int.reduceToNat, ne_eq, implies_true, bA]
  refine loopF (fun seen : List Nat => ⟨ofL [(1, .int .i64 fr), (2, .int .i64 n), (7, .int .i64 (n - ((seenE seen es).countP fun e => inR fr n e.2.1 : Int))), (14, .ref ob.length 0)], ob ++ [.iter sm ck seen ck]⟩) (fun _ => True) (fun seen => (mLeft seen es).length) [] ?_ trivial ?_
  · simp (config := {maxSteps := 4000000}) only [U_model_space_holes, reduceIte, reduceCtorEq, Nat.reduceEqDiff, Nat.reduceAdd, Int.reduceLT, Int.reduceLE, Int.reduceNeg, Int.reduceEq, Nat.reduceLT, Nat.reduceSub, Nat.reduceMul, Nat.reduceBEq, Nat.reduceLeDiff, Int.reduceBEq, Int.reduceBNe, Int.reduceToNat, ne_eq, implies_true, bA]
    have z : n - ((0 : Nat) : Int) = n := by omega
    simp only [seenE_nil, List.countP_nil, z]
  · intro seen _
    simp (config := {maxSteps := 4000000}) only [U_model_space_holes, ap0, hmA, reduceIte, reduceCtorEq, Nat.reduceEqDiff, Nat.reduceAdd, Int.reduceLT, Int.reduceLE, Int.reduceNeg, Int.reduceEq, Nat.reduceLT, Nat.reduceSub, Nat.reduceMul, Nat.reduceBEq, Nat.reduceLeDiff, Int.reduceBEq, Int.reduceBNe, Int.reduceToNat, ne_eq, implies_true, bA]
    refine ⟨ok.lt, Nat.le_refl _, fun hl => ?_, fun e he => ?_⟩
    · have e1 : ((seenE seen es).countP fun e => inR fr n e.2.1 : Int) = inS S fr (fr + n) := by
        rw [seenE_all hl, inS_count, ← hp.countP_eq, List.countP_map]; rfl
      simp (config := {maxSteps := 4000000}) only [U_model_space_holes, e1, reduceIte, reduceCtorEq, Nat.reduceEqDiff, Nat.reduceAdd, Int.reduceLT, Int.reduceLE, Int.reduceNeg, Int.reduceEq, Nat.reduceLT, Nat.reduceSub, Nat.reduceMul, Nat.reduceBEq, Nat.reduceLeDiff, Int.reduceBEq, Int.reduceBNe, Int.reduceToNat, ne_eq, implies_true, bA]
      exact ⟨_, rfl, rfl, _, rfl⟩
    · obtain ⟨he1, he2⟩ := mem_left.1 he
      have hf := find_entry ok.nd he1
      have hst := (seenE_step ok.nd he).countP_eq fun e => inR fr n e.2.1
      have hk := hkr e he1
      have hle : (seenE seen es).countP (fun e => inR fr n e.2.1) ≤ es.length := Nat.le_trans List.countP_le_length (List.length_filter_le _ _)
      rw [List.countP_cons] at hst
      have e0 : IntKind.i64.wrap (e.2.1 - fr) = e.2.1 - fr := wrapI (by omega) (by omega)
      by_cases c1 : fr ≤ e.2.1
      · have d1 : decide (fr ≤ e.2.1) = true := by simpa using c1
        by_cases c2 : e.2.1 - fr < n
        · have d2 : decide (e.2.1 - fr < n) = true := by simpa using c2
          have e1 : IntKind.i64.wrap (n - ((seenE seen es).countP fun e => inR fr n e.2.1 : Int) - 1) = n - ((seenE (seen ++ [e.1]) es).countP fun e => inR fr n e.2.1 : Int) := by
            rw [hst, if_pos (by simp [inR, c1, c2]), wrapI (by omega) (by omega)]; omega
          simp (config := {maxSteps := 4000000}) only [U_model_space_holes, ap0, st0, hmA, hf, d1, d2, e0, e1, reduceIte, reduceCtorEq, Nat.reduceEqDiff, Nat.reduceAdd, Int.reduceLT, Int.reduceLE, Int.reduceNeg, Int.reduceEq, Nat.reduceLT, Nat.reduceSub, Nat.reduceMul, Nat.reduceBEq, Nat.reduceLeDiff, Int.reduceBEq, Int.reduceBNe, Int.reduceToNat, ne_eq, implies_true, bA]
          exact ⟨seen ++ [e.1], rfl, left_step he⟩
        · have d2 : decide (e.2.1 - fr < n) = false := by simpa using c2
          have e1 : (seenE (seen ++ [e.1]) es).countP (fun e => inR fr n e.2.1) = (seenE seen es).countP (fun e => inR fr n e.2.1) := by
            rw [hst, if_neg (by simp [inR, c1, c2]), Nat.add_zero]
          simp (config := {maxSteps := 4000000}) only [U_model_space_holes, ap0, st0, hmA, hf, d1, d2, e0, reduceIte, reduceCtorEq, Nat.reduceEqDiff, Nat.reduceAdd, Int.reduceLT, Int.reduceLE, Int.reduceNeg, Int.reduceEq, Nat.reduceLT, Nat.reduceSub, Nat.reduceMul, Nat.reduceBEq, Nat.reduceLeDiff, Int.reduceBEq, Int.reduceBNe, Int.reduceToNat, ne_eq, implies_true, bA]
          exact ⟨seen ++ [e.1], by rw [e1], left_step he⟩
      · have d1 : decide (fr ≤ e.2.1) = false := by simpa using c1
        have e1 : (seenE (seen ++ [e.1]) es).countP (fun e => inR fr n e.2.1) = (seenE seen es).countP (fun e => inR fr n e.2.1) := by
          rw [hst, if_neg (by simp [inR, c1]), Nat.add_zero]
        simp (config := {maxSteps := 4000000}) only [U_model_space_holes, ap0, st0, hmA, hf, d1, reduceIte, reduceCtorEq, Nat.reduceEqDiff, Nat.reduceAdd, Int.reduceLT, Int.reduceLE, Int.reduceNeg, Int.reduceEq, Nat.reduceLT, Nat.reduceSub, Nat.reduceMul, Nat.reduceBEq, Nat.reduceLeDiff, Int.reduceBEq, Int.reduceBNe, Int.reduceToNat, ne_eq, implies_true, bA]
        exact ⟨seen ++ [e.1], by rw [e1], left_step he⟩

theorem setId {ob : List AObj} {m : Nat} {a : AObj} (h : ob[m]? = some a) : ob.set m a = ob := by
  apply List.ext_getElem?
  intro i
  rw [List.getElem?_set]
  split
  · rename_i e; subst e
    rw [h, if_pos (lt_of_get h)]
  · rfl
theorem sx0 (ob : List AObj) (m : Nat) (x : AObj) (l : List AObj) : (ob.set m x ++ l)[ob.length]? = l[0]? := by have := ap0 (ob.set m x) l; rwa [List.length_set] at this
theorem sx1 {ob : List AObj} {m : Nat} (h : m < ob.length) (x : AObj) (l : List AObj) : (ob.set m x ++ l)[m]? = some x := by rw [List.getElem?_append_left (by simpa using h), List.getElem?_set_self h]
theorem sx2 (ob : List AObj) (m : Nat) (x y : AObj) (l : List AObj) : (ob.set m x ++ l).set ob.length y = ob.set m x ++ l.set 0 y := by have := st0 (ob.set m x) l y; rwa [List.length_set] at this
theorem sx3 {ob : List AObj} {m : Nat} (h : m < ob.length) (x y : AObj) (l : List AObj) : (ob.set m x ++ l).set m y = ob.set m y ++ l := by rw [List.set_append_left _ _ (by simpa using h), List.set_set]
theorem sx4 {ob : List AObj} {m i : Nat} (h : i ≠ m) (hi : i < ob.length) (x : AObj) (l : List AObj) : (ob.set m x ++ l)[i]? = ob[i]? := by rw [List.getElem?_append_left (by simpa using hi), List.getElem?_set_ne (Ne.symm h)]

/-- A function value that says which keys go. -/
def Says (ob : List AObj) (m : Nat) (f : Nat) (args : Int → PV → List PV) (es : Ents) (hole : Int → Bool) : Prop :=
  ∀ ob', (∀ i, i ≠ m → i < ob.length → ob'[i]? = ob[i]?) → ∀ e ∈ es, ICall Try.prog f (args e.2.1 e.2.2) ob' fun r ob'' => r = .bool (hole e.2.1) ∧ ob'' = ob'
theorem delfunc_i {ob : List AObj} {m ck : Nat} {es : Ents} (hm : ob[m]? = some (.map ck es)) (ok : MapOk ck es) {hole : Int → Bool} {f : Nat} {cap : List PV} (hf : Says ob m f (fun k v => [.int .i64 k, v] ++ cap) es hole) :
    ICall Try.prog 49 [.mp m, .fn (.func f) [] cap] ob fun r ob' => ∃ it, ob' = ob.set m (.map ck (es.filter fun e => !hole e.2.1)) ++ [it] := by
  refine icall_dr Try.func49 comp_maps_DeleteFunc_string ?_
  have hlt := lt_of_get hm
  have q0 := sx0 ob m
  have q1 := sx1 hlt
  have q2 := sx2 ob m
  have q3 := sx3 hlt
  simp (config := {maxSteps := 4000000}) only [U_maps_DeleteFunc_string, hm, reduceIte, reduceCtorEq, Nat.reduceEqDiff, Nat.reduceAdd, Int.reduceLT, Int.reduceLE, Int.reduceNeg, Int.reduceEq, Nat.reduceLT, Nat.reduceSub, Nat.reduceMul, Nat.reduceBEq, Nat.reduceLeDiff, Int.reduceBEq, Int.reduceBNe, Int.reduceToNat, ne_eq, implies_true, bA]
  refine loopF (fun seen : List Nat => ⟨ofL [(0, .mp m), (1, .fn (.func f) [] cap), (7, .ref ob.length 0)], ob.set m (.map ck (cutE hole seen es)) ++ [.iter m ck seen ck]⟩) (fun _ => True) (fun seen => (mLeft seen es).length) [] ?_ trivial ?_
  · simp (config := {maxSteps := 4000000}) only [U_maps_DeleteFunc_string, reduceIte, reduceCtorEq, Nat.reduceEqDiff, Nat.reduceAdd, Int.reduceLT, Int.reduceLE, Int.reduceNeg, Int.reduceEq, Nat.reduceLT, Nat.reduceSub, Nat.reduceMul, Nat.reduceBEq, Nat.reduceLeDiff, Int.reduceBEq, Int.reduceBNe, Int.reduceToNat, ne_eq, implies_true, bA]
    rw [cutE_nil, setId hm]
  · intro seen _
    have hsub := cutE_sub hole seen es
    simp (config := {maxSteps := 4000000}) only [U_maps_DeleteFunc_string, q0, q1, q2, q3, reduceIte, reduceCtorEq, Nat.reduceEqDiff, Nat.reduceAdd, Int.reduceLT, Int.reduceLE, Int.reduceNeg, Int.reduceEq, Nat.reduceLT, Nat.reduceSub, Nat.reduceMul, Nat.reduceBEq, Nat.reduceLeDiff, Int.reduceBEq, Int.reduceBNe, Int.reduceToNat, ne_eq, implies_true, bA]
    refine ⟨fun e he => ok.lt e (hsub.subset he), Nat.le_refl _, fun hl => ?_, fun e he => ?_⟩
    · have e1 := cutE_all hl
      simp (config := {maxSteps := 4000000}) only [U_maps_DeleteFunc_string, e1, reduceIte, reduceCtorEq, Nat.reduceEqDiff, Nat.reduceAdd, Int.reduceLT, Int.reduceLE, Int.reduceNeg, Int.reduceEq, Nat.reduceLT, Nat.reduceSub, Nat.reduceMul, Nat.reduceBEq, Nat.reduceLeDiff, Int.reduceBEq, Int.reduceBNe, Int.reduceToNat, ne_eq, implies_true, bA]
      exact ⟨_, rfl, _, rfl⟩
    · obtain ⟨he1, he2⟩ := mem_left.1 he
      have hes : e ∈ es := hsub.subset he1
      have hfd := find_entry (List.Pairwise.sublist (hsub.map _) ok.nd) he1
      simp (config := {maxSteps := 4000000}) only [U_maps_DeleteFunc_string, q0, q1, q2, q3, hfd, reduceIte, reduceCtorEq, Nat.reduceEqDiff, Nat.reduceAdd, Int.reduceLT, Int.reduceLE, Int.reduceNeg, Int.reduceEq, Nat.reduceLT, Nat.reduceSub, Nat.reduceMul, Nat.reduceBEq, Nat.reduceLeDiff, Int.reduceBEq, Int.reduceBNe, Int.reduceToNat, ne_eq, implies_true, bA]
      refine callM (hf _ (fun i hi hl => by rw [sx4 hi hl]) e hes) ?_
      rintro r ob' ⟨rfl, rfl⟩
      by_cases c : hole e.2.1 = true
      · have e1 := cutE_drop ok.nd ok.kd hes c (seen := seen)
        simp (config := {maxSteps := 4000000}) only [U_maps_DeleteFunc_string, q0, q1, q2, q3, c, e1, reduceIte, reduceCtorEq, Nat.reduceEqDiff, Nat.reduceAdd, Int.reduceLT, Int.reduceLE, Int.reduceNeg, Int.reduceEq, Nat.reduceLT, Nat.reduceSub, Nat.reduceMul, Nat.reduceBEq, Nat.reduceLeDiff, Int.reduceBEq, Int.reduceBNe, Int.reduceToNat, ne_eq, implies_true, bA]
        exact ⟨seen ++ [e.1], rfl, cutE_left he⟩
      · have c' : hole e.2.1 = false := by simpa using c
        have e1 := cutE_keep ok.nd hes c' (seen := seen)
        simp (config := {maxSteps := 4000000}) only [U_maps_DeleteFunc_string, q0, q1, q2, q3, c', reduceIte, reduceCtorEq, Nat.reduceEqDiff, Nat.reduceAdd, Int.reduceLT, Int.reduceLE, Int.reduceNeg, Int.reduceEq, Nat.reduceLT, Nat.reduceSub, Nat.reduceMul, Nat.reduceBEq, Nat.reduceLeDiff, Int.reduceBEq, Int.reduceBNe, Int.reduceToNat, ne_eq, implies_true, bA]
        exact ⟨seen ++ [e.1], by rw [e1], cutE_left he⟩
theorem cut_c1_i {ob : List AObj} {bx f : Nat} {cap : List PV} {k : Int} {v : PV} {b : Bool} (hb : ob[bx]? = some (.box [.fn (.func f) [] cap])) (hf : ICall Try.prog f ([.int .i64 k] ++ cap) ob fun r ob'' => r = .bool b ∧ ob'' = ob) :
    ICall Try.prog 50 [.int .i64 k, v, .ref bx 0] ob fun r ob'' => r = .bool b ∧ ob'' = ob := by
  refine icall_dr Try.func50 comp_model_space_cut_c1 ?_
  simp (config := {maxSteps := 4000000}) only [U_model_space_cut_c1, hb, reduceIte, reduceCtorEq, Nat.reduceEqDiff, Nat.reduceAdd, Int.reduceLT, Int.reduceLE, Int.reduceNeg, Int.reduceEq, Nat.reduceLT, Nat.reduceSub, Nat.reduceMul, Nat.reduceBEq, Nat.reduceLeDiff, Int.reduceBEq, Int.reduceBNe, Int.reduceToNat, ne_eq, implies_true, bA]
  refine callM hf ?_
  rintro r ob' ⟨rfl, rfl⟩
  simp (config := {maxSteps := 4000000}) only [U_model_space_cut_c1, reduceIte, reduceCtorEq, Nat.reduceEqDiff, Nat.reduceAdd, Int.reduceLT, Int.reduceLE, Int.reduceNeg, Int.reduceEq, Nat.reduceLT, Nat.reduceSub, Nat.reduceMul, Nat.reduceBEq, Nat.reduceLeDiff, Int.reduceBEq, Int.reduceBNe, Int.reduceToNat, ne_eq, implies_true, bA]
  exact ⟨_, rfl, rfl⟩
theorem cut_i {ob : List AObj} {sb sm ck : Nat} {es : Ents} {size : Int} (hs : ob[sb]? = some (.box [.int .i64 size, .mp sm])) (hm : ob[sm]? = some (.map ck es)) (ok : MapOk ck es) {hole : Int → Bool} {f : Nat} {cap : List PV} (hf : Says ob sm f (fun k _ => [.int .i64 k] ++ cap) es hole) :
    ICall Try.prog 29 [.ref sb 0, .fn (.func f) [] cap] ob fun r ob' => ∃ ex, ob' = ob.set sm (.map ck (es.filter fun e => !hole e.2.1)) ++ ex := by
  refine icall_dr Try.func29 comp_model_space_cut ?_
  have hsA := fun l => apL hs l
  simp (config := {maxSteps := 4000000}) only [U_model_space_cut, hsA, reduceIte, reduceCtorEq, Nat.reduceEqDiff, Nat.reduceAdd, Int.reduceLT, Int.reduceLE, Int.reduceNeg, Int.reduceEq, Nat.reduceLT, Nat.reduceSub, Nat.reduceMul, Nat.reduceBEq, Nat.reduceLeDiff, Int.reduceBEq, Int.reduceBNe, Int.reduceToNat, ne_eq, implies_true, bA]
  refine callM (delfunc_i (hole := hole) (apL hm _) ok (cap := [.ref ob.length 0]) (f := 50) fun ob' hk e he => ?_) ?_
  · refine cut_c1_i (f := f) (cap := cap) ?_ (hf ob' (fun i hi hl => ?_) e he)
    · rw [hk _ (by have := lt_of_get hm; omega) (by simp), ap0]; rfl
    · rw [hk i hi (by simp; omega), List.getElem?_append_left hl]
  · rintro r ob' ⟨it, rfl⟩
    simp (config := {maxSteps := 4000000}) only [U_model_space_cut, reduceIte, reduceCtorEq, Nat.reduceEqDiff, Nat.reduceAdd, Int.reduceLT, Int.reduceLE, Int.reduceNeg, Int.reduceEq, Nat.reduceLT, Nat.reduceSub, Nat.reduceMul, Nat.reduceBEq, Nat.reduceLeDiff, Int.reduceBEq, Int.reduceBNe, Int.reduceToNat, ne_eq, implies_true, bA]
    refine ⟨_, rfl, [.box [.fn (.func f) [] cap], it], ?_⟩
    simp only [List.set_append_left _ _ (lt_of_get hm), List.append_assoc, List.cons_append, List.nil_append]

/- the two functions that say it -/
theorem sectors_c1_i {ob : List AObj} {rb nb : Nat} {q : Rq} {n k : Int} (hr : ob[rb]? = some (.box (rowQ q))) (hn : ob[nb]? = some (.box [.int .i64 n])) (hk : 0 ≤ k ∧ k ≤ 16777216) (hf : 0 ≤ q.fr ∧ q.fr ≤ 16777216) :
    ICall Try.prog 53 [.int .i64 k, .ref rb 0, .ref nb 0] ob fun r ob'' => r = .bool (inR q.fr n k) ∧ ob'' = ob := by
  refine icall_dr Try.func53 comp_model_Model_sectors_c1 ?_
  have e1 : IntKind.i64.wrap (k - q.fr) = k - q.fr := wrapI (by omega) (by omega)
  unfold inR
  by_cases c : q.fr ≤ k
  · have d : decide (q.fr ≤ k) = true := by simpa using c
    simp (config := {maxSteps := 4000000}) only [U_model_Model_sectors_c1, hr, hn, d, e1, reduceIte, reduceCtorEq, Nat.reduceEqDiff, Nat.reduceAdd, Int.reduceLT, Int.reduceLE, Int.reduceNeg, Int.reduceEq, Nat.reduceLT, Nat.reduceSub, Nat.reduceMul, Nat.reduceBEq, Nat.reduceLeDiff, Int.reduceBEq, Int.reduceBNe, Int.reduceToNat, ne_eq, implies_true, bA]
    exact ⟨_, rfl, rfl⟩
  · have d : decide (q.fr ≤ k) = false := by simpa using c
    simp (config := {maxSteps := 4000000}) only [U_model_Model_sectors_c1, hr, hn, d, reduceIte, reduceCtorEq, Nat.reduceEqDiff, Nat.reduceAdd, Int.reduceLT, Int.reduceLE, Int.reduceNeg, Int.reduceEq, Nat.reduceLT, Nat.reduceSub, Nat.reduceMul, Nat.reduceBEq, Nat.reduceLeDiff, Int.reduceBEq, Int.reduceBNe, Int.reduceToNat, ne_eq, implies_true, bA]
    exact ⟨_, rfl, rfl⟩
theorem do_c1_i {ob : List AObj} {rb : Nat} {q : Rq} {k : Int} (hr : ob[rb]? = some (.box (rowQ q))) :
    ICall Try.prog 30 [.int .i64 k, .ref rb 0] ob fun r ob'' => r = .bool (decide (q.n ≤ k)) ∧ ob'' = ob := by
  refine icall_dr Try.func30 comp_model_Model_Do_c1 ?_
  simp (config := {maxSteps := 4000000}) only [U_model_Model_Do_c1, hr, reduceIte, reduceCtorEq, Nat.reduceEqDiff, Nat.reduceAdd, Int.reduceLT, Int.reduceLE, Int.reduceNeg, Int.reduceEq, Nat.reduceLT, Nat.reduceSub, Nat.reduceMul, Nat.reduceBEq, Nat.reduceLeDiff, Int.reduceBEq, Int.reduceBNe, Int.reduceToNat, ne_eq, implies_true, bA]
  exact ⟨_, rfl, rfl⟩

theorem getG_app {k : Int} : ∀ (l m : List Sc), getG k (l ++ m) = (getG k l).or (getG k m)
  | [], m => by simp [getG]
  | a :: r, m => by
    simp only [List.cons_append, getG]
    split
    · rfl
    · exact getG_app r m
theorem getG_filter {k : Int} (p : Int → Bool) : ∀ (S : List Sc), getG k (S.filter fun x => p x.at_) = if p k = true then getG k S else none
  | [] => by simp [getG]
  | a :: r => by
    rw [List.filter_cons]
    by_cases hk : a.at_ = k
    · by_cases hp : p k = true
      · rw [if_pos (by rw [hk]; exact hp), if_pos hp]; simp only [getG, key_sc, hk, if_true]
      · rw [if_neg (by rw [hk]; exact hp), getG_filter p r, if_neg hp, if_neg hp]
    · by_cases hpa : p a.at_ = true
      · rw [if_pos hpa]; simp only [getG, key_sc, if_neg hk]; exact getG_filter p r
      · rw [if_neg hpa]; simp only [getG, key_sc, if_neg hk]; exact getG_filter p r
theorem getG_scs {k : Int} : ∀ (D : List (List UInt8)) (fr : Int), getG k (scsFrom fr D) = if fr ≤ k then (D[(k - fr).toNat]?).map fun d => ⟨k, d⟩ else none
  | [], fr => by simp [scsFrom, getG]
  | d :: r, fr => by
    simp only [scsFrom, getG, key_sc]
    by_cases c : fr = k
    · subst c; simp
    · rw [if_neg c, getG_scs r (fr + 1)]
      by_cases c2 : fr ≤ k
      · rw [if_pos (by omega), if_pos c2, show (k - fr).toNat = (k - (fr + 1)).toNat + 1 by omega, List.getElem?_cons_succ]
      · rw [if_neg (by omega), if_neg c2]
theorem getG_lay {S : List Sc} {fr k : Int} {D : List (List UInt8)} : getG k (layS S fr D) = if fr ≤ k ∧ k < fr + (D.length : Int) then (D[(k - fr).toNat]?).map fun d => ⟨k, d⟩ else getG k S := by
  rw [layS, getG_app, getG_app, getG_filter (fun a => decide (a < fr)), getG_filter (fun a => decide (fr + (D.length : Int) ≤ a)), getG_scs]
  by_cases c : fr ≤ k
  · rw [if_neg (by simp; omega), Option.none_or, if_pos c]
    by_cases c2 : k < fr + (D.length : Int)
    · rw [if_neg (show ¬ (decide (fr + (D.length : Int) ≤ k) = true) by simp; omega), if_pos ⟨c, c2⟩]; simp
    · rw [if_pos (by simp; omega), if_neg (by omega), List.getElem?_eq_none (by omega)]; rfl
  · rw [if_pos (by simp; omega), if_neg c, if_neg (show ¬ (decide (fr + (D.length : Int) ≤ k) = true) by simp; omega), if_neg (by omega)]; simp
theorem lay_step {S : List Sc} {fr k : Int} {D : List (List UInt8)} {i : Nat} (hi : i < D.length) : getG k (layS S fr (D.take (i + 1))) = if k = fr + (i : Int) then some ⟨k, D[i]⟩ else getG k (layS S fr (D.take i)) := by
  rw [getG_lay, getG_lay]
  have l1 : (D.take (i + 1)).length = i + 1 := by simp; omega
  have l2 : (D.take i).length = i := by simp; omega
  rw [l1, l2]
  by_cases c : k = fr + (i : Int)
  · subst c
    rw [if_pos ⟨by omega, by omega⟩, if_pos rfl, show (fr + (i : Int) - fr).toNat = i by omega]
    simp [List.getElem?_take, hi]
  · rw [if_neg c]
    by_cases c1 : fr ≤ k ∧ k < fr + (i : Int)
    · rw [if_pos (by omega), if_pos c1, List.getElem?_take_of_lt (by omega), List.getElem?_take_of_lt (by omega)]
    · rw [if_neg (by omega), if_neg c1]
theorem lay_nil {S : List Sc} {fr k : Int} : getG k (layS S fr []) = getG k S := by rw [getG_lay, if_neg (by simp)]
theorem SecRel.cut {es : Ents} {S : List Sc} (h : SecRel es S) {hole : Int → Bool} {fr to_ : Int} (hh : ∀ k, (getG k S).isSome = true → (!hole k) = (decide (k < fr) || decide (to_ ≤ k))) : SecRel (es.filter fun e => !hole e.2.1) (cutS S fr to_) := by
  intro k
  rw [mGet_filter (fun k => !hole k), cutS, getG_filter (fun a => decide (a < fr) || decide (to_ ≤ a)), h k]
  cases hg : getG k S with
  | none => simp
  | some x =>
    rw [← hh k (by rw [hg]; rfl)]
    by_cases c : hole k = true
    · simp [c]
    · simp [c]
theorem SecRel.put {es : Ents} {S S' : List Sc} {k0 : Int} {ck : Nat} {d : List UInt8} (h : SecRel es S) (hs : ∀ k, getG k S' = if k = k0 then some ⟨k, d⟩ else getG k S) : SecRel (mPutE ck k0 (.str d) es) S' := by
  intro k
  rw [mGet_put, hs k]
  by_cases c : k = k0
  · rw [if_pos c, if_pos c]; rfl
  · rw [if_neg c, if_neg c]; exact h k
theorem SecRel.re {es : Ents} {S S' : List Sc} (h : SecRel es S) (hs : ∀ k, getG k S' = getG k S) : SecRel es S' := fun k => by rw [hs k]; exact h k
theorem SecRel.keys {ck : Nat} {es : Ents} {S : List Sc} (h : SecRel es S) (ok : MapOk ck es) (hs : SortedG S) : (es.map (·.2.1)).Perm (S.map key) := keys_perm ok hs fun k => by rw [h k]; cases getG k S <;> rfl
end Go.Proofs.Ythjnfjgejdlbfaa.Aw
