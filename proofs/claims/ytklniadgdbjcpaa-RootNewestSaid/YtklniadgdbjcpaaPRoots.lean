/-
  The pages that have root records, sorted. Written by a program (mkroots.py).
-/
import Derived.Test.YtklniadgdbjcpaaPStab
set_option linter.unusedSimpArgs false
set_option linter.unusedVariables false
namespace Go.Proofs.Ytklniadgdbjcpaa.Aw
open Go.RowKit

def isR (x : Fd) : Bool := decide (x.kind = 4 ∧ x.space = 0 ∧ x.key = 0 ∧ (readR x.body).2.2 = 0)
def RootsK (ob : List AObj) (l : List Fd) : PV → List AObj → Prop := fun r ob' => ∃ Z n, r = .osl n 0 Z.length ∧ ob'[n]? = some (lF Z) ∧ Srt ltF Z ∧ Z.Perm (l.filter isR) ∧ ∃ ex, ob' = ob ++ ex
theorem filt_take {l : List Fd} {i : Nat} (h : i < l.length) : (l.take (i + 1)).filter isR = (l.take i).filter isR ++ (if isR l[i] = true then [l[i]] else []) := by
  rw [List.take_succ_eq_append_getElem h, List.filter_append]
  cases hh : isR l[i] <;> simp [List.filter, hh]
theorem ex_set {ob ex : List AObj} {a : AObj} : ∃ e, (ob ++ ex).set ob.length a = ob ++ e := ⟨ex.set 0 a, by rw [List.set_append_right _ _ (Nat.le_refl _)]; simp⟩
theorem gN (OB : List AObj) (b : AObj) : (OB ++ [b])[OB.length]? = some b := by simp
theorem sN (OB : List AObj) (b c : AObj) : (OB ++ [b]).set OB.length c = OB ++ [c] := by simp
theorem lt_of_getF {ob : List AObj} {i : Nat} {a : AObj} (h : ob[i]? = some a) : i < ob.length := (List.getElem?_eq_some_iff.1 h).1
abbrev AOb (_OB : List AObj) (out : List Fd) (i : Nat) (l : List Fd) (_x : Fd) : Prop := (l.take (i + 1)).filter isR = out

theorem rootsA {ob : List AObj} {l : List Fd} (hl : l.length ≤ 1000000) (hG : ∀ z ∈ l, z.body.length ≤ 1000000) : ICall Try.prog 18 [.slc (l.map rowF)] ob (RootsK ob l) := by
  refine icall_dr Try.func18 comp_root_Roots ?_
  simp (config := {maxSteps := 4000000}) only [U_root_Roots, reduceIte, reduceCtorEq, Nat.reduceEqDiff, Nat.reduceAdd, Int.reduceLT, Int.reduceLE, Int.reduceNeg, Int.reduceEq, Nat.reduceLT, Nat.reduceSub, Nat.reduceMul, Nat.reduceBEq, Nat.reduceLeDiff, Int.reduceBEq, Int.reduceBNe, Int.reduceToNat, ne_eq, implies_true, bA]
  refine loopF (fun s : Nat × List AObj => ⟨ofL [(3, .osl ob.length 0 ((l.take s.1).filter isR).length), (9, .slc (l.map rowF)), (10, .int .i64 (l.length : Int)), (11, .int .i64 (s.1 : Int))], s.2⟩)
    (fun s => s.1 ≤ l.length ∧ s.2[ob.length]? = some (lF ((l.take s.1).filter isR)) ∧ ∃ ex, s.2 = ob ++ ex) (fun s => l.length - s.1) (0, ob ++ [lF []]) ?_ ⟨Nat.zero_le _, by simp, _, rfl⟩ ?_
  · simp (config := {maxSteps := 4000000}) only [U_root_Roots, reduceIte, reduceCtorEq, Nat.reduceEqDiff, Nat.reduceAdd, Int.reduceLT, Int.reduceLE, Int.reduceNeg, Int.reduceEq, Nat.reduceLT, Nat.reduceSub, Nat.reduceMul, Nat.reduceBEq, Nat.reduceLeDiff, Int.reduceBEq, Int.reduceBNe, Int.reduceToNat, ne_eq, implies_true, bA]
    all_goals rfl
  · rintro ⟨i, OB⟩ ⟨hi, ho, ex, hex⟩
    simp only at hi ho hex ⊢
    obtain ⟨out, hout⟩ : ∃ out, (l.take i).filter isR = out := ⟨_, rfl⟩
    rw [hout] at ho ⊢
    have hoL : out.length ≤ 1000000 := by
      have h1 := List.length_filter_le isR (l.take i)
      rw [hout, List.length_take] at h1; omega
    have hlo : ob.length < OB.length := lt_of_getF ho
    by_cases hlt : i < l.length
    · have d := dT hlt
      obtain ⟨x, hx⟩ : ∃ x, l[i] = x := ⟨_, rfl⟩
      have hft := filt_take hlt
      rw [hout, hx] at hft
      have hxG : x.body.length ≤ 1000000 := by rw [← hx]; exact hG _ (List.getElem_mem hlt)
      have w1 : IntKind.i64.wrap ((i : Int) + 1) = ((i + 1 : Nat) : Int) := by rw [wrapI (by omega) (by omega)]; omega
      have g1 := gN OB
      have s1 := sN OB
      have hr : i < (l.map rowF).length := by simpa using hlt
      have i1 : ∀ OB : List AObj, islV OB [] 6 (.slc (l.map rowF)) (.int .i64 (i : Int)) = some (.fptr (rowF x)) := fun OB => by
        rw [islV_slc (k := .i64) hr (by simp [rowF])]; simp [hx]
      have hno : isR x = false → AOb OB out i l x := fun h => by
        rw [h] at hft; simp at hft; exact hft
      by_cases ck : x.kind = 4
      · have k1 : (x.kind != 4) = false := by simp [ck]
        by_cases cs : x.space = 0
        · have k2 : (x.space != 0) = false := by simp [cs]
          by_cases cq : x.key = 0
          · have k3 : (x.key != 0) = false := by simp [cq]
            simp (config := {maxSteps := 4000000}) only [U_root_Roots, d, i1, g1, s1, rowF, k1, k2, k3, reduceIte, reduceCtorEq, Nat.reduceEqDiff, Nat.reduceAdd, Int.reduceLT, Int.reduceLE, Int.reduceNeg, Int.reduceEq, Nat.reduceLT, Nat.reduceSub, Nat.reduceMul, Nat.reduceBEq, Nat.reduceLeDiff, Int.reduceBEq, Int.reduceBNe, Int.reduceToNat, ne_eq, implies_true, bA]
            refine callI (read_spec x.body hxG) ?_
            by_cases ce : (readR x.body).2.2 = 0
            · have k4 := eT ce
              have hyes : isR x = true := by simp [isR, ck, cs, cq, ce]
              rw [if_pos hyes] at hft
              have ho2 : ∀ b, (OB ++ [b])[ob.length]? = some (lF out) := fun b => by rw [List.getElem?_append_left hlo]; exact ho
              have ap : ∀ b, appO (OB ++ [b]) [] none 6 (.osl ob.length 0 out.length) (some [rowF x]) = some (.osl ob.length 0 (out.length + [rowF x].length), (OB ++ [b]).set ob.length (.list 6 (out.map rowF ++ [rowF x]))) := fun b =>
                appO_osl (by simp) (ho2 b) (by simp) (by simp; omega) (by simp [rowsOk, rowF, PV.scal, ownL, PV.own?]) (by simp)
              have ap' := ap
              simp only [rowF, List.length_singleton] at ap'
              simp (config := {maxSteps := 4000000}) only [U_root_Roots, k4, g1, s1, ho2, ap', w1, rowF, reduceIte, reduceCtorEq, Nat.reduceEqDiff, Nat.reduceAdd, Int.reduceLT, Int.reduceLE, Int.reduceNeg, Int.reduceEq, Nat.reduceLT, Nat.reduceSub, Nat.reduceMul, Nat.reduceBEq, Nat.reduceLeDiff, Int.reduceBEq, Int.reduceBNe, Int.reduceToNat, ne_eq, implies_true, bA]
              refine ⟨(i + 1, (OB ++ [AObj.box (rowF x)]).set ob.length (lF (out ++ [x]))), ?_, ⟨hlt, ?_, ?_⟩, by simp only; omega⟩
              · rw [hft]; simp [rowF, lF]
              · rw [hft]; exact set_get (ho2 _)
              · rw [hex, List.append_assoc]; exact ex_set
            · have k4 := eF ce
              have hn : isR x = false := by simp [isR, ce]
              simp (config := {maxSteps := 4000000}) only [U_root_Roots, k4, g1, s1, w1, rowF, reduceIte, reduceCtorEq, Nat.reduceEqDiff, Nat.reduceAdd, Int.reduceLT, Int.reduceLE, Int.reduceNeg, Int.reduceEq, Nat.reduceLT, Nat.reduceSub, Nat.reduceMul, Nat.reduceBEq, Nat.reduceLeDiff, Int.reduceBEq, Int.reduceBNe, Int.reduceToNat, ne_eq, implies_true, bA]
              refine ⟨(i + 1, OB ++ [AObj.box (rowF x)]), ?_, ⟨hlt, ?_, ?_⟩, by simp only; omega⟩
              · rw [hno hn]; simp [rowF]
              · rw [hno hn, List.getElem?_append_left hlo]; exact ho
              · exact ⟨ex ++ [AObj.box (rowF x)], by simp [hex]⟩
          · have k3 : (x.key != 0) = true := by simp [cq]
            have hn : isR x = false := by simp [isR, cq]
            simp (config := {maxSteps := 4000000}) only [U_root_Roots, d, i1, g1, s1, rowF, k1, k2, k3, w1, reduceIte, reduceCtorEq, Nat.reduceEqDiff, Nat.reduceAdd, Int.reduceLT, Int.reduceLE, Int.reduceNeg, Int.reduceEq, Nat.reduceLT, Nat.reduceSub, Nat.reduceMul, Nat.reduceBEq, Nat.reduceLeDiff, Int.reduceBEq, Int.reduceBNe, Int.reduceToNat, ne_eq, implies_true, bA]
            refine ⟨(i + 1, OB ++ [AObj.box (rowF x)]), ?_, ⟨hlt, ?_, ?_⟩, by simp only; omega⟩
            · rw [hno hn]; simp [rowF]
            · rw [hno hn, List.getElem?_append_left hlo]; exact ho
            · exact ⟨ex ++ [AObj.box (rowF x)], by simp [hex]⟩
        · have k2 : (x.space != 0) = true := by simp [cs]
          have hn : isR x = false := by simp [isR, cs]
          simp (config := {maxSteps := 4000000}) only [U_root_Roots, d, i1, g1, s1, rowF, k1, k2, w1, reduceIte, reduceCtorEq, Nat.reduceEqDiff, Nat.reduceAdd, Int.reduceLT, Int.reduceLE, Int.reduceNeg, Int.reduceEq, Nat.reduceLT, Nat.reduceSub, Nat.reduceMul, Nat.reduceBEq, Nat.reduceLeDiff, Int.reduceBEq, Int.reduceBNe, Int.reduceToNat, ne_eq, implies_true, bA]
          refine ⟨(i + 1, OB ++ [AObj.box (rowF x)]), ?_, ⟨hlt, ?_, ?_⟩, by simp only; omega⟩
          · rw [hno hn]; simp [rowF]
          · rw [hno hn, List.getElem?_append_left hlo]; exact ho
          · exact ⟨ex ++ [AObj.box (rowF x)], by simp [hex]⟩
      · have k1 : (x.kind != 4) = true := by simp [ck]
        have hn : isR x = false := by simp [isR, ck]
        simp (config := {maxSteps := 4000000}) only [U_root_Roots, d, i1, g1, s1, rowF, k1, w1, reduceIte, reduceCtorEq, Nat.reduceEqDiff, Nat.reduceAdd, Int.reduceLT, Int.reduceLE, Int.reduceNeg, Int.reduceEq, Nat.reduceLT, Nat.reduceSub, Nat.reduceMul, Nat.reduceBEq, Nat.reduceLeDiff, Int.reduceBEq, Int.reduceBNe, Int.reduceToNat, ne_eq, implies_true, bA]
        refine ⟨(i + 1, OB ++ [AObj.box (rowF x)]), ?_, ⟨hlt, ?_, ?_⟩, by simp only; omega⟩
        · rw [hno hn]; simp [rowF]
        · rw [hno hn, List.getElem?_append_left hlo]; exact ho
        · exact ⟨ex ++ [AObj.box (rowF x)], by simp [hex]⟩
    · have d := dF hlt
      have hA : l.take i = l := List.take_of_length_le (by omega)
      rw [hA] at hout
      have gO : ∀ z ∈ out, z.body.length ≤ 1000000 := fun z hz => hG z (by rw [← hout] at hz; exact (List.mem_filter.1 hz).1)
      simp (config := {maxSteps := 4000000}) only [U_root_Roots, d, reduceIte, reduceCtorEq, Nat.reduceEqDiff, Nat.reduceAdd, Int.reduceLT, Int.reduceLE, Int.reduceNeg, Int.reduceEq, Nat.reduceLT, Nat.reduceSub, Nat.reduceMul, Nat.reduceBEq, Nat.reduceLeDiff, Int.reduceBEq, Int.reduceBNe, Int.reduceToNat, ne_eq, implies_true, bA]
      refine callM (sort_i rfl hoL ho gO) ?_
      rintro r ob' ⟨rfl, Z, sZ, pZ, rfl⟩
      have lZ : Z.length = out.length := pZ.length_eq
      rw [← lZ]
      simp (config := {maxSteps := 4000000}) only [U_root_Roots, reduceIte, reduceCtorEq, Nat.reduceEqDiff, Nat.reduceAdd, Int.reduceLT, Int.reduceLE, Int.reduceNeg, Int.reduceEq, Nat.reduceLT, Nat.reduceSub, Nat.reduceMul, Nat.reduceBEq, Nat.reduceLeDiff, Int.reduceBEq, Int.reduceBNe, Int.reduceToNat, ne_eq, implies_true, bA]
      refine ⟨_, rfl, Z, ob.length, rfl, set_get ho, sZ, by rw [hout]; exact pZ, ?_⟩
      rw [hex]; exact ex_set

theorem rootsB {ob : List AObj} {l : List Fd} (hl : l.length ≤ 1000000) (hG : ∀ z ∈ l, z.body.length ≤ 1000000) {m n : Nat} (hm : ob[m]? = some (lF l)) (hn : n = l.length) : ICall Try.prog 18 [.osl m 0 n] ob (RootsK ob l) := by
  refine icall_dr Try.func18 comp_root_Roots ?_
  have hr : rowsO (some (lF l)) 0 n = some (l.map rowF) := rowsO_all (by simp [hn])
  have hm1 : (ob ++ [AObj.list 6 []])[m]? = some (lF l) := by rw [List.getElem?_append_left (lt_of_getF hm)]; exact hm
  simp (config := {maxSteps := 4000000}) only [U_root_Roots, hr, hm1, reduceIte, reduceCtorEq, Nat.reduceEqDiff, Nat.reduceAdd, Int.reduceLT, Int.reduceLE, Int.reduceNeg, Int.reduceEq, Nat.reduceLT, Nat.reduceSub, Nat.reduceMul, Nat.reduceBEq, Nat.reduceLeDiff, Int.reduceBEq, Int.reduceBNe, Int.reduceToNat, ne_eq, implies_true, bA]
  refine loopF (fun s : Nat × List AObj => ⟨ofL [(3, .osl ob.length 0 ((l.take s.1).filter isR).length), (9, .osl m 0 n), (10, .int .i64 (l.length : Int)), (11, .int .i64 (s.1 : Int))], s.2⟩)
    (fun s => s.1 ≤ l.length ∧ s.2[ob.length]? = some (lF ((l.take s.1).filter isR)) ∧ ∃ ex, s.2 = ob ++ ex) (fun s => l.length - s.1) (0, ob ++ [lF []]) ?_ ⟨Nat.zero_le _, by simp, _, rfl⟩ ?_
  · simp (config := {maxSteps := 4000000}) only [U_root_Roots, hr, hm1, reduceIte, reduceCtorEq, Nat.reduceEqDiff, Nat.reduceAdd, Int.reduceLT, Int.reduceLE, Int.reduceNeg, Int.reduceEq, Nat.reduceLT, Nat.reduceSub, Nat.reduceMul, Nat.reduceBEq, Nat.reduceLeDiff, Int.reduceBEq, Int.reduceBNe, Int.reduceToNat, ne_eq, implies_true, bA]
    all_goals rfl
  · rintro ⟨i, OB⟩ ⟨hi, ho, ex, hex⟩
    simp only at hi ho hex ⊢
    obtain ⟨out, hout⟩ : ∃ out, (l.take i).filter isR = out := ⟨_, rfl⟩
    rw [hout] at ho ⊢
    have hoL : out.length ≤ 1000000 := by
      have h1 := List.length_filter_le isR (l.take i)
      rw [hout, List.length_take] at h1; omega
    have hlo : ob.length < OB.length := lt_of_getF ho
    by_cases hlt : i < l.length
    · have d := dT hlt
      obtain ⟨x, hx⟩ : ∃ x, l[i] = x := ⟨_, rfl⟩
      have hft := filt_take hlt
      rw [hout, hx] at hft
      have hxG : x.body.length ≤ 1000000 := by rw [← hx]; exact hG _ (List.getElem_mem hlt)
      have w1 : IntKind.i64.wrap ((i : Int) + 1) = ((i + 1 : Nat) : Int) := by rw [wrapI (by omega) (by omega)]; omega
      have g1 := gN OB
      have s1 := sN OB
      have hmO : OB[m]? = some (lF l) := by rw [hex, List.getElem?_append_left (lt_of_getF hm)]; exact hm
      have i1 := isF (o := m) (rfl : (i : Int) = _) hlt hn
      have i2 := ldF hlt hn
      rw [hx] at i2
      have hno : isR x = false → AOb OB out i l x := fun h => by
        rw [h] at hft; simp at hft; exact hft
      by_cases ck : x.kind = 4
      · have k1 : (x.kind != 4) = false := by simp [ck]
        by_cases cs : x.space = 0
        · have k2 : (x.space != 0) = false := by simp [cs]
          by_cases cq : x.key = 0
          · have k3 : (x.key != 0) = false := by simp [cq]
            simp (config := {maxSteps := 4000000}) only [U_root_Roots, d, hmO, i1, i2, g1, s1, rowF, k1, k2, k3, reduceIte, reduceCtorEq, Nat.reduceEqDiff, Nat.reduceAdd, Int.reduceLT, Int.reduceLE, Int.reduceNeg, Int.reduceEq, Nat.reduceLT, Nat.reduceSub, Nat.reduceMul, Nat.reduceBEq, Nat.reduceLeDiff, Int.reduceBEq, Int.reduceBNe, Int.reduceToNat, ne_eq, implies_true, bA]
            refine callI (read_spec x.body hxG) ?_
            by_cases ce : (readR x.body).2.2 = 0
            · have k4 := eT ce
              have hyes : isR x = true := by simp [isR, ck, cs, cq, ce]
              rw [if_pos hyes] at hft
              have ho2 : ∀ b, (OB ++ [b])[ob.length]? = some (lF out) := fun b => by rw [List.getElem?_append_left hlo]; exact ho
              have ap : ∀ b, appO (OB ++ [b]) [] none 6 (.osl ob.length 0 out.length) (some [rowF x]) = some (.osl ob.length 0 (out.length + [rowF x].length), (OB ++ [b]).set ob.length (.list 6 (out.map rowF ++ [rowF x]))) := fun b =>
                appO_osl (by simp) (ho2 b) (by simp) (by simp; omega) (by simp [rowsOk, rowF, PV.scal, ownL, PV.own?]) (by simp)
              have ap' := ap
              simp only [rowF, List.length_singleton] at ap'
              simp (config := {maxSteps := 4000000}) only [U_root_Roots, k4, g1, s1, ho2, ap', w1, rowF, reduceIte, reduceCtorEq, Nat.reduceEqDiff, Nat.reduceAdd, Int.reduceLT, Int.reduceLE, Int.reduceNeg, Int.reduceEq, Nat.reduceLT, Nat.reduceSub, Nat.reduceMul, Nat.reduceBEq, Nat.reduceLeDiff, Int.reduceBEq, Int.reduceBNe, Int.reduceToNat, ne_eq, implies_true, bA]
              refine ⟨(i + 1, (OB ++ [AObj.box (rowF x)]).set ob.length (lF (out ++ [x]))), ?_, ⟨hlt, ?_, ?_⟩, by simp only; omega⟩
              · rw [hft]; simp [rowF, lF]
              · rw [hft]; exact set_get (ho2 _)
              · rw [hex, List.append_assoc]; exact ex_set
            · have k4 := eF ce
              have hn : isR x = false := by simp [isR, ce]
              simp (config := {maxSteps := 4000000}) only [U_root_Roots, k4, g1, s1, w1, rowF, reduceIte, reduceCtorEq, Nat.reduceEqDiff, Nat.reduceAdd, Int.reduceLT, Int.reduceLE, Int.reduceNeg, Int.reduceEq, Nat.reduceLT, Nat.reduceSub, Nat.reduceMul, Nat.reduceBEq, Nat.reduceLeDiff, Int.reduceBEq, Int.reduceBNe, Int.reduceToNat, ne_eq, implies_true, bA]
              refine ⟨(i + 1, OB ++ [AObj.box (rowF x)]), ?_, ⟨hlt, ?_, ?_⟩, by simp only; omega⟩
              · rw [hno hn]; simp [rowF]
              · rw [hno hn, List.getElem?_append_left hlo]; exact ho
              · exact ⟨ex ++ [AObj.box (rowF x)], by simp [hex]⟩
          · have k3 : (x.key != 0) = true := by simp [cq]
            have hn : isR x = false := by simp [isR, cq]
            simp (config := {maxSteps := 4000000}) only [U_root_Roots, d, hmO, i1, i2, g1, s1, rowF, k1, k2, k3, w1, reduceIte, reduceCtorEq, Nat.reduceEqDiff, Nat.reduceAdd, Int.reduceLT, Int.reduceLE, Int.reduceNeg, Int.reduceEq, Nat.reduceLT, Nat.reduceSub, Nat.reduceMul, Nat.reduceBEq, Nat.reduceLeDiff, Int.reduceBEq, Int.reduceBNe, Int.reduceToNat, ne_eq, implies_true, bA]
            refine ⟨(i + 1, OB ++ [AObj.box (rowF x)]), ?_, ⟨hlt, ?_, ?_⟩, by simp only; omega⟩
            · rw [hno hn]; simp [rowF]
            · rw [hno hn, List.getElem?_append_left hlo]; exact ho
            · exact ⟨ex ++ [AObj.box (rowF x)], by simp [hex]⟩
        · have k2 : (x.space != 0) = true := by simp [cs]
          have hn : isR x = false := by simp [isR, cs]
          simp (config := {maxSteps := 4000000}) only [U_root_Roots, d, hmO, i1, i2, g1, s1, rowF, k1, k2, w1, reduceIte, reduceCtorEq, Nat.reduceEqDiff, Nat.reduceAdd, Int.reduceLT, Int.reduceLE, Int.reduceNeg, Int.reduceEq, Nat.reduceLT, Nat.reduceSub, Nat.reduceMul, Nat.reduceBEq, Nat.reduceLeDiff, Int.reduceBEq, Int.reduceBNe, Int.reduceToNat, ne_eq, implies_true, bA]
          refine ⟨(i + 1, OB ++ [AObj.box (rowF x)]), ?_, ⟨hlt, ?_, ?_⟩, by simp only; omega⟩
          · rw [hno hn]; simp [rowF]
          · rw [hno hn, List.getElem?_append_left hlo]; exact ho
          · exact ⟨ex ++ [AObj.box (rowF x)], by simp [hex]⟩
      · have k1 : (x.kind != 4) = true := by simp [ck]
        have hn : isR x = false := by simp [isR, ck]
        simp (config := {maxSteps := 4000000}) only [U_root_Roots, d, hmO, i1, i2, g1, s1, rowF, k1, w1, reduceIte, reduceCtorEq, Nat.reduceEqDiff, Nat.reduceAdd, Int.reduceLT, Int.reduceLE, Int.reduceNeg, Int.reduceEq, Nat.reduceLT, Nat.reduceSub, Nat.reduceMul, Nat.reduceBEq, Nat.reduceLeDiff, Int.reduceBEq, Int.reduceBNe, Int.reduceToNat, ne_eq, implies_true, bA]
        refine ⟨(i + 1, OB ++ [AObj.box (rowF x)]), ?_, ⟨hlt, ?_, ?_⟩, by simp only; omega⟩
        · rw [hno hn]; simp [rowF]
        · rw [hno hn, List.getElem?_append_left hlo]; exact ho
        · exact ⟨ex ++ [AObj.box (rowF x)], by simp [hex]⟩
    · have d := dF hlt
      have hA : l.take i = l := List.take_of_length_le (by omega)
      rw [hA] at hout
      have gO : ∀ z ∈ out, z.body.length ≤ 1000000 := fun z hz => hG z (by rw [← hout] at hz; exact (List.mem_filter.1 hz).1)
      simp (config := {maxSteps := 4000000}) only [U_root_Roots, d, reduceIte, reduceCtorEq, Nat.reduceEqDiff, Nat.reduceAdd, Int.reduceLT, Int.reduceLE, Int.reduceNeg, Int.reduceEq, Nat.reduceLT, Nat.reduceSub, Nat.reduceMul, Nat.reduceBEq, Nat.reduceLeDiff, Int.reduceBEq, Int.reduceBNe, Int.reduceToNat, ne_eq, implies_true, bA]
      refine callM (sort_i rfl hoL ho gO) ?_
      rintro r ob' ⟨rfl, Z, sZ, pZ, rfl⟩
      have lZ : Z.length = out.length := pZ.length_eq
      rw [← lZ]
      simp (config := {maxSteps := 4000000}) only [U_root_Roots, reduceIte, reduceCtorEq, Nat.reduceEqDiff, Nat.reduceAdd, Int.reduceLT, Int.reduceLE, Int.reduceNeg, Int.reduceEq, Nat.reduceLT, Nat.reduceSub, Nat.reduceMul, Nat.reduceBEq, Nat.reduceLeDiff, Int.reduceBEq, Int.reduceBNe, Int.reduceToNat, ne_eq, implies_true, bA]
      refine ⟨_, rfl, Z, ob.length, rfl, set_get ho, sZ, by rw [hout]; exact pZ, ?_⟩
      rw [hex]; exact ex_set

end Go.Proofs.Ytklniadgdbjcpaa.Aw
