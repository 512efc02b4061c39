/-
  The model: making holes.
-/
import Derived.Test.YthjnfjgejdlbfaaPModB
set_option linter.unusedSimpArgs false
set_option linter.unusedVariables false
namespace Go.Proofs.Ythjnfjgejdlbfaa.Aw
open Go.RowKit

theorem setId {ob : List AObj} {m : Nat} {a : AObj} (h : ob[m]? = some a) : ob.set m a = ob := by
  apply List.ext_getElem?
  intro i
  rw [List.getElem?_set]
  split
  · rename_i e; subst e
    rw [h, if_pos (lt_of_get h)]
  · rfl
theorem sx0 (ob : List AObj) (m : Nat) (x : AObj) (l : List AObj) : (ob.set m x ++ l)[ob.length]? = l[0]? := by have := ap0 (ob.set m x) l; rwa [List.length_set] at this
theorem sx1 {ob : List AObj} {m : Nat} (h : m < ob.length) (x : AObj) (l : List AObj) : (ob.set m x ++ l)[m]? = some x := by rw [List.getElem?_append_left (by simpa using h), List.getElem?_set_self h]
theorem sx2 (ob : List AObj) (m : Nat) (x y : AObj) (l : List AObj) : (ob.set m x ++ l).set ob.length y = ob.set m x ++ l.set 0 y := by have := st0 (ob.set m x) l y; rwa [List.length_set] at this
theorem sx3 {ob : List AObj} {m : Nat} (h : m < ob.length) (x y : AObj) (l : List AObj) : (ob.set m x ++ l).set m y = ob.set m y ++ l := by rw [List.set_append_left _ _ (by simpa using h), List.set_set]
theorem sx4 {ob : List AObj} {m i : Nat} (h : i ≠ m) (hi : i < ob.length) (x : AObj) (l : List AObj) : (ob.set m x ++ l)[i]? = ob[i]? := by rw [List.getElem?_append_left (by simpa using hi), List.getElem?_set_ne (Ne.symm h)]

/-- A function value that says which keys go. -/
def Says (ob : List AObj) (m : Nat) (f : Nat) (args : Int → PV → List PV) (es : Ents) (hole : Int → Bool) : Prop :=
  ∀ ob', (∀ i, i ≠ m → i < ob.length → ob'[i]? = ob[i]?) → ∀ e ∈ es, ICall Try.prog f (args e.2.1 e.2.2) ob' fun r ob'' => r = .bool (hole e.2.1) ∧ ob'' = ob'
theorem delfunc_i {ob : List AObj} {m ck : Nat} {es : Ents} (hm : ob[m]? = some (.map ck es)) (ok : MapOk ck es) {hole : Int → Bool} {f : Nat} {cap : List PV} (hf : Says ob m f (fun k v => [.int .i64 k, v] ++ cap) es hole) :
    ICall Try.prog 49 [.mp m, .fn (.func f) [] cap] ob fun r ob' => ∃ it, ob' = ob.set m (.map ck (es.filter fun e => !hole e.2.1)) ++ [it] := by
  refine icall_dr Try.func49 comp_maps_DeleteFunc_string ?_
  have hlt := lt_of_get hm
  have q0 := sx0 ob m
  have q1 := sx1 hlt
  have q2 := sx2 ob m
  have q3 := sx3 hlt
  simp (config := {maxSteps := 4000000}) only [U_maps_DeleteFunc_string, hm, reduceIte, reduceCtorEq, Nat.reduceEqDiff, Nat.reduceAdd, Int.reduceLT, Int.reduceLE, Int.reduceNeg, Int.reduceEq, Nat.reduceLT, Nat.reduceSub, Nat.reduceMul, Nat.reduceBEq, Nat.reduceLeDiff, Int.reduceBEq, Int.reduceBNe, Int.reduceToNat, ne_eq, implies_true, bA]
  refine loopF (fun seen : List Nat => ⟨ofL [(0, .mp m), (1, .fn (.func f) [] cap), (7, .ref ob.length 0)], ob.set m (.map ck (cutE hole seen es)) ++ [.iter m ck seen ck]⟩) (fun _ => True) (fun seen => (mLeft seen es).length) [] ?_ trivial ?_
  · simp (config := {maxSteps := 4000000}) only [U_maps_DeleteFunc_string, reduceIte, reduceCtorEq, Nat.reduceEqDiff, Nat.reduceAdd, Int.reduceLT, Int.reduceLE, Int.reduceNeg, Int.reduceEq, Nat.reduceLT, Nat.reduceSub, Nat.reduceMul, Nat.reduceBEq, Nat.reduceLeDiff, Int.reduceBEq, Int.reduceBNe, Int.reduceToNat, ne_eq, implies_true, bA]
    rw [cutE_nil, setId hm]
  · intro seen _
    have hsub := cutE_sub hole seen es
    simp (config := {maxSteps := 4000000}) only [U_maps_DeleteFunc_string, q0, q1, q2, q3, reduceIte, reduceCtorEq, Nat.reduceEqDiff, Nat.reduceAdd, Int.reduceLT, Int.reduceLE, Int.reduceNeg, Int.reduceEq, Nat.reduceLT, Nat.reduceSub, Nat.reduceMul, Nat.reduceBEq, Nat.reduceLeDiff, Int.reduceBEq, Int.reduceBNe, Int.reduceToNat, ne_eq, implies_true, bA]
    refine ⟨fun e he => ok.lt e (hsub.subset he), Nat.le_refl _, fun hl => ?_, fun e he => ?_⟩
    · have e1 := cutE_all hl
      simp (config := {maxSteps := 4000000}) only [U_maps_DeleteFunc_string, e1, reduceIte, reduceCtorEq, Nat.reduceEqDiff, Nat.reduceAdd, Int.reduceLT, Int.reduceLE, Int.reduceNeg, Int.reduceEq, Nat.reduceLT, Nat.reduceSub, Nat.reduceMul, Nat.reduceBEq, Nat.reduceLeDiff, Int.reduceBEq, Int.reduceBNe, Int.reduceToNat, ne_eq, implies_true, bA]
      exact ⟨_, rfl, _, rfl⟩
    · obtain ⟨he1, he2⟩ := mem_left.1 he
      have hes : e ∈ es := hsub.subset he1
      have hfd := find_entry (List.Pairwise.sublist (hsub.map _) ok.nd) he1
      simp (config := {maxSteps := 4000000}) only [U_maps_DeleteFunc_string, q0, q1, q2, q3, hfd, reduceIte, reduceCtorEq, Nat.reduceEqDiff, Nat.reduceAdd, Int.reduceLT, Int.reduceLE, Int.reduceNeg, Int.reduceEq, Nat.reduceLT, Nat.reduceSub, Nat.reduceMul, Nat.reduceBEq, Nat.reduceLeDiff, Int.reduceBEq, Int.reduceBNe, Int.reduceToNat, ne_eq, implies_true, bA]
      refine callM (hf _ (fun i hi hl => by rw [sx4 hi hl]) e hes) ?_
      rintro r ob' ⟨rfl, rfl⟩
      by_cases c : hole e.2.1 = true
      · have e1 := cutE_drop ok.nd ok.kd hes c (seen := seen)
        simp (config := {maxSteps := 4000000}) only [U_maps_DeleteFunc_string, q0, q1, q2, q3, c, e1, reduceIte, reduceCtorEq, Nat.reduceEqDiff, Nat.reduceAdd, Int.reduceLT, Int.reduceLE, Int.reduceNeg, Int.reduceEq, Nat.reduceLT, Nat.reduceSub, Nat.reduceMul, Nat.reduceBEq, Nat.reduceLeDiff, Int.reduceBEq, Int.reduceBNe, Int.reduceToNat, ne_eq, implies_true, bA]
        exact ⟨seen ++ [e.1], rfl, cutE_left he⟩
      · have c' : hole e.2.1 = false := by simpa using c
        have e1 := cutE_keep ok.nd hes c' (seen := seen)
        simp (config := {maxSteps := 4000000}) only [U_maps_DeleteFunc_string, q0, q1, q2, q3, c', reduceIte, reduceCtorEq, Nat.reduceEqDiff, Nat.reduceAdd, Int.reduceLT, Int.reduceLE, Int.reduceNeg, Int.reduceEq, Nat.reduceLT, Nat.reduceSub, Nat.reduceMul, Nat.reduceBEq, Nat.reduceLeDiff, Int.reduceBEq, Int.reduceBNe, Int.reduceToNat, ne_eq, implies_true, bA]
        exact ⟨seen ++ [e.1], by rw [e1], cutE_left he⟩
theorem cut_c1_i {ob : List AObj} {bx f : Nat} {cap : List PV} {k : Int} {v : PV} {b : Bool} (hb : ob[bx]? = some (.box [.fn (.func f) [] cap])) (hf : ICall Try.prog f ([.int .i64 k] ++ cap) ob fun r ob'' => r = .bool b ∧ ob'' = ob) :
    ICall Try.prog 50 [.int .i64 k, v, .ref bx 0] ob fun r ob'' => r = .bool b ∧ ob'' = ob := by
  refine icall_dr Try.func50 comp_model_space_cut_c1 ?_
  simp (config := {maxSteps := 4000000}) only [U_model_space_cut_c1, hb, reduceIte, reduceCtorEq, Nat.reduceEqDiff, Nat.reduceAdd, Int.reduceLT, Int.reduceLE, Int.reduceNeg, Int.reduceEq, Nat.reduceLT, Nat.reduceSub, Nat.reduceMul, Nat.reduceBEq, Nat.reduceLeDiff, Int.reduceBEq, Int.reduceBNe, Int.reduceToNat, ne_eq, implies_true, bA]
  refine callM hf ?_
  rintro r ob' ⟨rfl, rfl⟩
  simp (config := {maxSteps := 4000000}) only [U_model_space_cut_c1, reduceIte, reduceCtorEq, Nat.reduceEqDiff, Nat.reduceAdd, Int.reduceLT, Int.reduceLE, Int.reduceNeg, Int.reduceEq, Nat.reduceLT, Nat.reduceSub, Nat.reduceMul, Nat.reduceBEq, Nat.reduceLeDiff, Int.reduceBEq, Int.reduceBNe, Int.reduceToNat, ne_eq, implies_true, bA]
  exact ⟨_, rfl, rfl⟩
theorem cut_i {ob : List AObj} {sb sm ck : Nat} {es : Ents} {size : Int} (hs : ob[sb]? = some (.box [.int .i64 size, .mp sm])) (hm : ob[sm]? = some (.map ck es)) (ok : MapOk ck es) {hole : Int → Bool} {f : Nat} {cap : List PV} (hf : Says ob sm f (fun k _ => [.int .i64 k] ++ cap) es hole) :
    ICall Try.prog 29 [.ref sb 0, .fn (.func f) [] cap] ob fun r ob' => ∃ ex, ob' = ob.set sm (.map ck (es.filter fun e => !hole e.2.1)) ++ ex := by
  refine icall_dr Try.func29 comp_model_space_cut ?_
  have hsA := fun l => apL hs l
  simp (config := {maxSteps := 4000000}) only [U_model_space_cut, hsA, reduceIte, reduceCtorEq, Nat.reduceEqDiff, Nat.reduceAdd, Int.reduceLT, Int.reduceLE, Int.reduceNeg, Int.reduceEq, Nat.reduceLT, Nat.reduceSub, Nat.reduceMul, Nat.reduceBEq, Nat.reduceLeDiff, Int.reduceBEq, Int.reduceBNe, Int.reduceToNat, ne_eq, implies_true, bA]
  refine callM (delfunc_i (hole := hole) (apL hm _) ok (cap := [.ref ob.length 0]) (f := 50) fun ob' hk e he => ?_) ?_
  · refine cut_c1_i (f := f) (cap := cap) ?_ (hf ob' (fun i hi hl => ?_) e he)
    · rw [hk _ (by have := lt_of_get hm; omega) (by simp), ap0]; rfl
    · rw [hk i hi (by simp; omega), List.getElem?_append_left hl]
  · rintro r ob' ⟨it, rfl⟩
    simp (config := {maxSteps := 4000000}) only [U_model_space_cut, reduceIte, reduceCtorEq, Nat.reduceEqDiff, Nat.reduceAdd, Int.reduceLT, Int.reduceLE, Int.reduceNeg, Int.reduceEq, Nat.reduceLT, Nat.reduceSub, Nat.reduceMul, Nat.reduceBEq, Nat.reduceLeDiff, Int.reduceBEq, Int.reduceBNe, Int.reduceToNat, ne_eq, implies_true, bA]
    refine ⟨_, rfl, [.box [.fn (.func f) [] cap], it], ?_⟩
    simp only [List.set_append_left _ _ (lt_of_get hm), List.append_assoc, List.cons_append, List.nil_append]

/- the two functions that say it -/
theorem sectors_c1_i {ob : List AObj} {rb nb : Nat} {q : Rq} {n k : Int} (hr : ob[rb]? = some (.box (rowQ q))) (hn : ob[nb]? = some (.box [.int .i64 n])) (hk : 0 ≤ k ∧ k ≤ 16777216) (hf : 0 ≤ q.fr ∧ q.fr ≤ 16777216) :
    ICall Try.prog 53 [.int .i64 k, .ref rb 0, .ref nb 0] ob fun r ob'' => r = .bool (inR q.fr n k) ∧ ob'' = ob := by
  refine icall_dr Try.func53 comp_model_Model_sectors_c1 ?_
  have e1 : IntKind.i64.wrap (k - q.fr) = k - q.fr := wrapI (by omega) (by omega)
  unfold inR
  by_cases c : q.fr ≤ k
  · have d : decide (q.fr ≤ k) = true := by simpa using c
    simp (config := {maxSteps := 4000000}) only [U_model_Model_sectors_c1, hr, hn, d, e1, reduceIte, reduceCtorEq, Nat.reduceEqDiff, Nat.reduceAdd, Int.reduceLT, Int.reduceLE, Int.reduceNeg, Int.reduceEq, Nat.reduceLT, Nat.reduceSub, Nat.reduceMul, Nat.reduceBEq, Nat.reduceLeDiff, Int.reduceBEq, Int.reduceBNe, Int.reduceToNat, ne_eq, implies_true, bA]
    exact ⟨_, rfl, rfl⟩
  · have d : decide (q.fr ≤ k) = false := by simpa using c
    simp (config := {maxSteps := 4000000}) only [U_model_Model_sectors_c1, hr, hn, d, reduceIte, reduceCtorEq, Nat.reduceEqDiff, Nat.reduceAdd, Int.reduceLT, Int.reduceLE, Int.reduceNeg, Int.reduceEq, Nat.reduceLT, Nat.reduceSub, Nat.reduceMul, Nat.reduceBEq, Nat.reduceLeDiff, Int.reduceBEq, Int.reduceBNe, Int.reduceToNat, ne_eq, implies_true, bA]
    exact ⟨_, rfl, rfl⟩
theorem do_c1_i {ob : List AObj} {rb : Nat} {q : Rq} {k : Int} (hr : ob[rb]? = some (.box (rowQ q))) :
    ICall Try.prog 30 [.int .i64 k, .ref rb 0] ob fun r ob'' => r = .bool (decide (q.n ≤ k)) ∧ ob'' = ob := by
  refine icall_dr Try.func30 comp_model_Model_Do_c1 ?_
  simp (config := {maxSteps := 4000000}) only [U_model_Model_Do_c1, hr, reduceIte, reduceCtorEq, Nat.reduceEqDiff, Nat.reduceAdd, Int.reduceLT, Int.reduceLE, Int.reduceNeg, Int.reduceEq, Nat.reduceLT, Nat.reduceSub, Nat.reduceMul, Nat.reduceBEq, Nat.reduceLeDiff, Int.reduceBEq, Int.reduceBNe, Int.reduceToNat, ne_eq, implies_true, bA]
  exact ⟨_, rfl, rfl⟩
end Go.Proofs.Ythjnfjgejdlbfaa.Aw
