/-
  The model: how many sectors are charged, how many are holes.
-/
import Derived.Test.YthjnfjgejdlbfaaPModA
set_option linter.unusedSimpArgs false
set_option linter.unusedVariables false
namespace Go.Proofs.Ythjnfjgejdlbfaa.Aw
open Go.RowKit

theorem ap0 (ob l : List AObj) : (ob ++ l)[ob.length]? = l[0]? := by rw [List.getElem?_append_right (Nat.le_refl _)]; simp
theorem ap1 (ob l : List AObj) : (ob ++ l)[ob.length + 1]? = l[1]? := by rw [List.getElem?_append_right (by omega)]; simp
theorem ap2 (ob l : List AObj) : (ob ++ l)[ob.length + 2]? = l[2]? := by rw [List.getElem?_append_right (by omega)]; simp
theorem ap3 (ob l : List AObj) : (ob ++ l)[ob.length + 3]? = l[3]? := by rw [List.getElem?_append_right (by omega)]; simp
theorem st0 (ob l : List AObj) (x : AObj) : (ob ++ l).set ob.length x = ob ++ l.set 0 x := by rw [List.set_append_right _ _ (Nat.le_refl _)]; simp
theorem st1 (ob l : List AObj) (x : AObj) : (ob ++ l).set (ob.length + 1) x = ob ++ l.set 1 x := by rw [List.set_append_right _ _ (by omega)]; simp
theorem st2 (ob l : List AObj) (x : AObj) : (ob ++ l).set (ob.length + 2) x = ob ++ l.set 2 x := by rw [List.set_append_right _ _ (by omega)]; simp
theorem st3 (ob l : List AObj) (x : AObj) : (ob ++ l).set (ob.length + 3) x = ob ++ l.set 3 x := by rw [List.set_append_right _ _ (by omega)]; simp
theorem apL {ob : List AObj} {i : Nat} {a : AObj} (h : ob[i]? = some a) (l : List AObj) : (ob ++ l)[i]? = some a := by rw [List.getElem?_append_left (lt_of_get h)]; exact h

/- sums over what was seen -/
def entL (e : SpE) : Nat × Int × PV := (e.born, e.s.id, .int .i64 (e.es.length : Int))
def wtL (x : Nat × Int × PV) : Nat :=
  match x.2.2 with
  | .int _ n => n.toNat
  | _ => 0
def sumW (es : Ents) : Nat := (es.map wtL).sum
theorem sumW_perm {a b : Ents} (h : a.Perm b) : sumW a = sumW b := (h.map wtL).sum_nat
theorem sumW_le (p : (Nat × Int × PV) → Bool) : ∀ (l : Ents), sumW (l.filter p) ≤ sumW l
  | [] => Nat.le_refl _
  | x :: r => by
    have := sumW_le p r
    simp only [sumW] at this ⊢
    rw [List.filter_cons]
    split <;> simp only [List.map_cons, List.sum_cons] <;> omega
theorem usedV_sum : ∀ (A : List Spc), usedV A = (((A.map fun s => s.S.length).sum : Nat) : Int)
  | [] => rfl
  | a :: r => by simp only [usedV, List.map_cons, List.sum_cons, usedV_sum r]; omega
theorem sumW_E {E : List SpE} : sumW (E.map entL) = (E.map fun e => e.es.length).sum := by
  rw [sumW, List.map_map]
  congr 1
theorem left_iff {seen : List Nat} {E : List SpE} {f g : SpE → Nat × Int × PV} (hf : ∀ e, (f e).1 = (g e).1) : (mLeft seen (E.map f) = [] ↔ mLeft seen (E.map g) = []) := by
  simp only [mLeft, List.filter_eq_nil_iff, List.mem_map]
  constructor
  · rintro h x ⟨e, he, rfl⟩; have := h (f e) ⟨e, he, rfl⟩; rwa [hf e] at this
  · rintro h x ⟨e, he, rfl⟩; have := h (g e) ⟨e, he, rfl⟩; rwa [← hf e] at this
theorem ModAt.used {ob b m ck E cap A} (h : ModAt ob b m ck E cap A) : ((E.map fun e => e.es.length).sum : Nat) = ((A.map fun s => s.S.length).sum : Nat) := by
  rw [← ((h.mem.map fun s => s.S.length)).sum_nat, List.map_map]
  congr 1
  apply List.map_congr_left
  intro e he
  exact h.slen he
theorem used_r {ob b m ck E cap A} (h : ModAt ob b m ck E cap A) : RCall Try.prog 28 [.ref b 0] ob (.int .i64 (usedV A)) := by
  refine RCall.of (K := fun r ob' => r = .int .i64 (usedV A) ∧ ∃ ex, ob' = ob ++ ex) ?_ (fun r ob' h => h) rfl
  refine icall_dr Try.func28 comp_model_Model_used ?_
  have hb := h.hb
  have hm := h.hm
  have hmA := fun l => apL hm l
  have hE := h.used
  have hU := usedV_sum A
  have hu := h.vol.use
  have hc := h.vol.c1
  simp (config := {maxSteps := 4000000}) only [U_model_Model_used, hb, hm, reduceIte, reduceCtorEq, Nat.reduceEqDiff, Nat.reduceAdd, Int.reduceLT, Int.reduceLE, Int.reduceNeg, Int.reduceEq, Nat.reduceLT, Nat.reduceSub, Nat.reduceMul, Nat.reduceBEq, Nat.reduceLeDiff, Int.reduceBEq, Int.reduceBNe, Int.reduceToNat, ne_eq, implies_true, bA]
  refine loopF (fun seen : List Nat => ⟨ofL [(3, .int .i64 (sumW (seenE seen (E.map entL)) : Int)), (10, .ref ob.length 0)], ob ++ [.iter m ck seen ck]⟩) (fun _ => True) (fun seen => (mLeft seen (E.map entM)).length) [] ?_ trivial ?_
  · simp (config := {maxSteps := 4000000}) only [U_model_Model_used, reduceIte, reduceCtorEq, Nat.reduceEqDiff, Nat.reduceAdd, Int.reduceLT, Int.reduceLE, Int.reduceNeg, Int.reduceEq, Nat.reduceLT, Nat.reduceSub, Nat.reduceMul, Nat.reduceBEq, Nat.reduceLeDiff, Int.reduceBEq, Int.reduceBNe, Int.reduceToNat, ne_eq, implies_true, bA]
    simp only [seenE_nil]
    rfl
  · intro seen _
    simp (config := {maxSteps := 4000000}) only [U_model_Model_used, ap0, hmA, reduceIte, reduceCtorEq, Nat.reduceEqDiff, Nat.reduceAdd, Int.reduceLT, Int.reduceLE, Int.reduceNeg, Int.reduceEq, Nat.reduceLT, Nat.reduceSub, Nat.reduceMul, Nat.reduceBEq, Nat.reduceLeDiff, Int.reduceBEq, Int.reduceBNe, Int.reduceToNat, ne_eq, implies_true, bA]
    refine ⟨h.ok.lt, Nat.le_refl _, fun hl => ?_, fun e he => ?_⟩
    · have hs : seenE seen (E.map entL) = E.map entL := seenE_all ((left_iff (f := entM) (g := entL) fun _ => rfl).1 hl)
      have e1 : ((sumW (seenE seen (E.map entL)) : Nat) : Int) = usedV A := by rw [hs, sumW_E, hE, hU]
      simp (config := {maxSteps := 4000000}) only [U_model_Model_used, e1, reduceIte, reduceCtorEq, Nat.reduceEqDiff, Nat.reduceAdd, Int.reduceLT, Int.reduceLE, Int.reduceNeg, Int.reduceEq, Nat.reduceLT, Nat.reduceSub, Nat.reduceMul, Nat.reduceBEq, Nat.reduceLeDiff, Int.reduceBEq, Int.reduceBNe, Int.reduceToNat, ne_eq, implies_true, bA]
      exact ⟨_, rfl, rfl, _, rfl⟩
    · obtain ⟨he1, he2⟩ := mem_left.1 he
      obtain ⟨x, hx, rfl⟩ := List.mem_map.1 he1
      have hf := find_entry h.ok.nd he1
      have hs := fun l => apL (h.sp x hx) l
      have hp := fun l => apL (h.mp x hx) l
      have hl2 : entL x ∈ mLeft seen (E.map entL) := mem_left.2 ⟨List.mem_map_of_mem hx, he2⟩
      have hnd : ((E.map entL).map (·.1)).Nodup := by have := h.ok.nd; rw [List.map_map] at this ⊢; exact this
      have hst := sumW_perm (seenE_step hnd hl2)
      have hle : sumW (seenE (seen ++ [x.born]) (E.map entL)) ≤ sumW (E.map entL) := sumW_le _ _
      have hw : sumW (entL x :: seenE seen (E.map entL)) = x.es.length + sumW (seenE seen (E.map entL)) := by simp [sumW, wtL, entL]
      rw [sumW_E] at hle
      have e1 : IntKind.i64.wrap ((sumW (seenE seen (E.map entL)) : Int) + (x.es.length : Int)) = (sumW (seenE (seen ++ [x.born]) (E.map entL)) : Int) := by
        have h3 : sumW (seenE (seen ++ [x.born]) (E.map entL)) = x.es.length + sumW (seenE seen (E.map entL)) := hst.trans hw
        rw [wrapI (by omega) (by omega)]; omega
      simp only [entM] at hf
      simp (config := {maxSteps := 4000000}) only [U_model_Model_used, ap0, st0, hmA, hf, hs, hp, entM, e1, reduceIte, reduceCtorEq, Nat.reduceEqDiff, Nat.reduceAdd, Int.reduceLT, Int.reduceLE, Int.reduceNeg, Int.reduceEq, Nat.reduceLT, Nat.reduceSub, Nat.reduceMul, Nat.reduceBEq, Nat.reduceLeDiff, Int.reduceBEq, Int.reduceBNe, Int.reduceToNat, ne_eq, implies_true, bA]
      exact ⟨seen ++ [x.born], rfl, left_step he⟩

/- holes -/
def inR (fr n k : Int) : Bool := decide (fr ≤ k) && decide (k - fr < n)
theorem inS_count {S : List Sc} {fr n : Int} : inS S fr (fr + n) = ((S.map key).countP (inR fr n) : Int) := by
  have h1 : (cutS S fr (fr + n)).length + (S.map key).countP (inR fr n) = S.length := by
    rw [cutS, ← List.countP_eq_length_filter, List.countP_map]
    have := List.length_eq_countP_add_countP (p := fun x : Sc => decide (x.at_ < fr) || decide (fr + n ≤ x.at_)) (l := S)
    rw [this]
    congr 1
    apply List.countP_congr
    intro x _
    simp only [Function.comp, inR, key_sc]
    by_cases c1 : x.at_ < fr
    · simp [c1, Int.not_le.2 c1]
    · by_cases c2 : fr + n ≤ x.at_
      · have c3 : ¬ (x.at_ - fr < n) := by omega
        simp [c1, c2, c3]
      · have c3 : x.at_ - fr < n := by omega
        have c4 : fr ≤ x.at_ := by omega
        simp [c1, c2, c3, c4]
  unfold inS
  omega
theorem holes_r {ob : List AObj} {sb sm ck : Nat} {es : Ents} {S : List Sc} {size : Int} (hs : ob[sb]? = some (.box [.int .i64 size, .mp sm])) (hm : ob[sm]? = some (.map ck es)) (ok : MapOk ck es) (hp : (es.map (·.2.1)).Perm (S.map key))
    (hr : ∀ x ∈ S, 0 ≤ x.at_ ∧ x.at_ < 16777216) {fr n : Int} (hfr : 0 ≤ fr ∧ fr ≤ 16777216) (hn : 0 ≤ n ∧ n ≤ 16777216) :
    RCall Try.prog 73 [.ref sb 0, .int .i64 fr, .int .i64 n] ob (.int .i64 (n - inS S fr (fr + n))) := by
  refine RCall.of (K := fun r ob' => r = .int .i64 (n - inS S fr (fr + n)) ∧ ∃ ex, ob' = ob ++ ex) ?_ (fun r ob' h => h) rfl
  refine icall_dr Try.func73 comp_model_space_holes ?_
  have hmA := fun l => apL hm l
  have hkr : ∀ e ∈ es, 0 ≤ e.2.1 ∧ e.2.1 < 16777216 := by
    intro e he
    obtain ⟨x, hx, hxe⟩ := List.mem_map.1 (hp.mem_iff.1 (List.mem_map_of_mem (f := fun x : Nat × Int × PV => x.2.1) he))
    have := hr x hx
    rw [key_sc] at hxe
    omega
  have hsz := ok.sz
  simp (config := {maxSteps := 4000000}) only [U_model_space_holes, hs, hm, reduceIte, reduceCtorEq, Nat.reduceEqDiff, Nat.reduceAdd, Int.reduceLT, Int.reduceLE, Int.reduceNeg, Int.reduceEq, Nat.reduceLT, Nat.reduceSub, Nat.reduceMul, Nat.reduceBEq, Nat.reduceLeDiff, Int.reduceBEq, Int.reduceBNe, Int.reduceToNat, ne_eq, implies_true, bA]
  refine loopF (fun seen : List Nat => ⟨ofL [(1, .int .i64 fr), (2, .int .i64 n), (7, .int .i64 (n - ((seenE seen es).countP fun e => inR fr n e.2.1 : Int))), (14, .ref ob.length 0)], ob ++ [.iter sm ck seen ck]⟩) (fun _ => True) (fun seen => (mLeft seen es).length) [] ?_ trivial ?_
  · simp (config := {maxSteps := 4000000}) only [U_model_space_holes, reduceIte, reduceCtorEq, Nat.reduceEqDiff, Nat.reduceAdd, Int.reduceLT, Int.reduceLE, Int.reduceNeg, Int.reduceEq, Nat.reduceLT, Nat.reduceSub, Nat.reduceMul, Nat.reduceBEq, Nat.reduceLeDiff, Int.reduceBEq, Int.reduceBNe, Int.reduceToNat, ne_eq, implies_true, bA]
    have z : n - ((0 : Nat) : Int) = n := by omega
    simp only [seenE_nil, List.countP_nil, z]
  · intro seen _
    simp (config := {maxSteps := 4000000}) only [U_model_space_holes, ap0, hmA, reduceIte, reduceCtorEq, Nat.reduceEqDiff, Nat.reduceAdd, Int.reduceLT, Int.reduceLE, Int.reduceNeg, Int.reduceEq, Nat.reduceLT, Nat.reduceSub, Nat.reduceMul, Nat.reduceBEq, Nat.reduceLeDiff, Int.reduceBEq, Int.reduceBNe, Int.reduceToNat, ne_eq, implies_true, bA]
    refine ⟨ok.lt, Nat.le_refl _, fun hl => ?_, fun e he => ?_⟩
    · have e1 : ((seenE seen es).countP fun e => inR fr n e.2.1 : Int) = inS S fr (fr + n) := by
        rw [seenE_all hl, inS_count, ← hp.countP_eq, List.countP_map]; rfl
      simp (config := {maxSteps := 4000000}) only [U_model_space_holes, e1, reduceIte, reduceCtorEq, Nat.reduceEqDiff, Nat.reduceAdd, Int.reduceLT, Int.reduceLE, Int.reduceNeg, Int.reduceEq, Nat.reduceLT, Nat.reduceSub, Nat.reduceMul, Nat.reduceBEq, Nat.reduceLeDiff, Int.reduceBEq, Int.reduceBNe, Int.reduceToNat, ne_eq, implies_true, bA]
      exact ⟨_, rfl, rfl, _, rfl⟩
    · obtain ⟨he1, he2⟩ := mem_left.1 he
      have hf := find_entry ok.nd he1
      have hst := (seenE_step ok.nd he).countP_eq fun e => inR fr n e.2.1
      have hk := hkr e he1
      have hle : (seenE seen es).countP (fun e => inR fr n e.2.1) ≤ es.length := Nat.le_trans List.countP_le_length (List.length_filter_le _ _)
      rw [List.countP_cons] at hst
      have e0 : IntKind.i64.wrap (e.2.1 - fr) = e.2.1 - fr := wrapI (by omega) (by omega)
      by_cases c1 : fr ≤ e.2.1
      · have d1 : decide (fr ≤ e.2.1) = true := by simpa using c1
        by_cases c2 : e.2.1 - fr < n
        · have d2 : decide (e.2.1 - fr < n) = true := by simpa using c2
          have e1 : IntKind.i64.wrap (n - ((seenE seen es).countP fun e => inR fr n e.2.1 : Int) - 1) = n - ((seenE (seen ++ [e.1]) es).countP fun e => inR fr n e.2.1 : Int) := by
            rw [hst, if_pos (by simp [inR, c1, c2]), wrapI (by omega) (by omega)]; omega
          simp (config := {maxSteps := 4000000}) only [U_model_space_holes, ap0, st0, hmA, hf, d1, d2, e0, e1, reduceIte, reduceCtorEq, Nat.reduceEqDiff, Nat.reduceAdd, Int.reduceLT, Int.reduceLE, Int.reduceNeg, Int.reduceEq, Nat.reduceLT, Nat.reduceSub, Nat.reduceMul, Nat.reduceBEq, Nat.reduceLeDiff, Int.reduceBEq, Int.reduceBNe, Int.reduceToNat, ne_eq, implies_true, bA]
          exact ⟨seen ++ [e.1], rfl, left_step he⟩
        · have d2 : decide (e.2.1 - fr < n) = false := by simpa using c2
          have e1 : (seenE (seen ++ [e.1]) es).countP (fun e => inR fr n e.2.1) = (seenE seen es).countP (fun e => inR fr n e.2.1) := by
            rw [hst, if_neg (by simp [inR, c1, c2]), Nat.add_zero]
          simp (config := {maxSteps := 4000000}) only [U_model_space_holes, ap0, st0, hmA, hf, d1, d2, e0, reduceIte, reduceCtorEq, Nat.reduceEqDiff, Nat.reduceAdd, Int.reduceLT, Int.reduceLE, Int.reduceNeg, Int.reduceEq, Nat.reduceLT, Nat.reduceSub, Nat.reduceMul, Nat.reduceBEq, Nat.reduceLeDiff, Int.reduceBEq, Int.reduceBNe, Int.reduceToNat, ne_eq, implies_true, bA]
          exact ⟨seen ++ [e.1], by rw [e1], left_step he⟩
      · have d1 : decide (fr ≤ e.2.1) = false := by simpa using c1
        have e1 : (seenE (seen ++ [e.1]) es).countP (fun e => inR fr n e.2.1) = (seenE seen es).countP (fun e => inR fr n e.2.1) := by
          rw [hst, if_neg (by simp [inR, c1]), Nat.add_zero]
        simp (config := {maxSteps := 4000000}) only [U_model_space_holes, ap0, st0, hmA, hf, d1, reduceIte, reduceCtorEq, Nat.reduceEqDiff, Nat.reduceAdd, Int.reduceLT, Int.reduceLE, Int.reduceNeg, Int.reduceEq, Nat.reduceLT, Nat.reduceSub, Nat.reduceMul, Nat.reduceBEq, Nat.reduceLeDiff, Int.reduceBEq, Int.reduceBNe, Int.reduceToNat, ne_eq, implies_true, bA]
        exact ⟨seen ++ [e.1], by rw [e1], left_step he⟩
end Go.Proofs.Ythjnfjgejdlbfaa.Aw
