/-
  ModelCopies: a copy says the same, and is another one.
-/
import Derived.Test.YthjnfjgejdlbfaaL17p
import Derived.Test.YthjnfjgejdlbfaaPSame
import Derived.Test.YthjnfjgejdlbfaaPCopy
set_option linter.all false
set_option linter.unusedSimpArgs false
set_option linter.unusedVariables false
namespace Go.Proofs.Ythjnfjgejdlbfaa.Aw
open Go.RowKit

def vC := (And.intro (And.intro (And.intro (And.intro (And.intro (And.intro (And.intro @ac_law17_ModelCopies.eq_1 (@mR _ _ qp0_0.eq_1)) (@mR _ _ qp0_1.eq_1)) (And.intro (And.intro (@mR _ _ qp0_2.eq_1) (@mU _ _ qp0_3.eq_1)) (@mU _ _ qp0_4.eq_1))) (And.intro (And.intro (And.intro (@mU _ _ qp0_5.eq_1) (@mR _ _ qp0_6.eq_1)) (@mR _ _ qp0_7.eq_1)) (And.intro (@mR _ _ qp0_8.eq_1) (@mR _ _ qp0_9.eq_1)))) (And.intro (And.intro (And.intro (And.intro (@mU _ _ qp0_10.eq_1) (@mU _ _ qp0_11.eq_1)) (@mR _ _ qp0_12.eq_1)) (And.intro (And.intro (@mR _ _ qp0_13.eq_1) (@mD _ _ _ qp0_14.eq_1)) (@mU _ _ qp0_15.eq_1))) (And.intro (And.intro (And.intro (@mU _ _ qp0_16.eq_1) (@mU _ _ qp0_17.eq_1)) (@mU _ _ qp0_18.eq_1)) (And.intro (@mR _ _ qp0_19.eq_1) (@mU _ _ qp0_20.eq_1))))) (And.intro (And.intro (And.intro (And.intro (And.intro (@mU _ _ qp0_21.eq_1) (@mU _ _ qp0_22.eq_1)) (@mU _ _ qp0_23.eq_1)) (And.intro (And.intro (@mU _ _ qp0_24.eq_1) (@mR _ _ qp0_26.eq_1)) (@mR _ _ qp0_27.eq_1))) (And.intro (And.intro (And.intro (@mU _ _ qp0_28.eq_1) (@mU _ _ qp0_29.eq_1)) (@mU _ _ qp0_30.eq_1)) (And.intro (@mR _ _ qp0_31.eq_1) (@mR _ _ qp0_32.eq_1)))) (And.intro (And.intro (And.intro (And.intro (@mU _ _ qp0_33.eq_1) (@mU _ _ qp0_34.eq_1)) (@mR _ _ qp0_35.eq_1)) (And.intro (And.intro (@mU _ _ qp0_36.eq_1) (@mU _ _ qp0_37.eq_1)) (@mR _ _ qp0_38.eq_1))) (And.intro (And.intro (And.intro (@mD _ _ _ qp0_39.eq_1) (@mD _ _ _ qp0_40.eq_1)) (@mR _ _ qp0_41.eq_1)) (And.intro (@mU _ _ qp0_42.eq_1) (@mU _ _ qp0_43.eq_1)))))) (And.intro (And.intro (And.intro (And.intro (And.intro (And.intro (@mU _ _ qp0_44.eq_1) (@mU _ _ qp0_45.eq_1)) (@mU _ _ qp0_46.eq_1)) (And.intro (And.intro (@mU _ _ qp0_47.eq_1) (@mU _ _ qp0_48.eq_1)) (@mR _ _ qp0_49.eq_1))) (And.intro (And.intro (And.intro (@mU _ _ qp0_50.eq_1) (@mU _ _ qp0_51.eq_1)) (@mU _ _ qp0_52.eq_1)) (And.intro (@mU _ _ qp0_53.eq_1) (@mU _ _ qp0_54.eq_1)))) (And.intro (And.intro (And.intro (And.intro (@mR _ _ qp0_55.eq_1) (@mU _ _ qp0_56.eq_1)) (@mU _ _ qp0_57.eq_1)) (And.intro (And.intro (@mU _ _ qp0_58.eq_1) (@mU _ _ qp0_59.eq_1)) (@mU _ _ qp0_60.eq_1))) (And.intro (And.intro (And.intro (@mU _ _ qp0_61.eq_1) (@mU _ _ qp0_62.eq_1)) (@mU _ _ qp0_63.eq_1)) (And.intro (@mU _ _ qp0_64.eq_1) @qp0l0.eq_1)))) (And.intro (And.intro (And.intro (And.intro (And.intro @qp0l1.eq_1 @qp0l2.eq_1) @qp0l6.eq_1) (And.intro (And.intro @qp0l7.eq_1 @qp0l8.eq_1) @qp0l9.eq_1)) (And.intro (And.intro (And.intro @qp0l12.eq_1 @qp0l13.eq_1) @qp0l14.eq_1) (And.intro @qp0l19.eq_1 @qp0l26.eq_1))) (And.intro (And.intro (And.intro (And.intro @qp0l27.eq_1 @qp0l31.eq_1) @qp0l32.eq_1) (And.intro @qp0l35.eq_1 @qp0l38.eq_1)) (And.intro (And.intro (And.intro @qp0l39.eq_1 @qp0l40.eq_1) @qp0l41.eq_1) (And.intro @qp0l49.eq_1 @qp0l55.eq_1))))))
def v25 := (And.intro (And.intro (And.intro (@mDN _ _ _ qp0_25.eq_1) @qp0l25t0.eq_1) (And.intro @qp0l25t1.eq_1 @qp0l25t2.eq_1)) (And.intro (And.intro @qp0l25t3.eq_1 @qp0l25t4.eq_1) (And.intro @qp0l25t5.eq_1 @qp0l25t6.eq_1)))

theorem takeEq {α : Type} {a b : List α} {i : Nat} (h : a.take i = b.take i) (ha : i < a.length) (hb : i < b.length) (he : a[i] = b[i]) : a.take (i + 1) = b.take (i + 1) := by
  rw [List.take_succ_eq_append_getElem ha, List.take_succ_eq_append_getElem hb, h, he]
theorem sameV_spec (K : Int) (A B : List Spc) (hA : A.length ≤ 1000000) (hS : ∀ s ∈ A, s.S.length ≤ 1000000) : PCall Try.prog 23 [pvV K A, pvV K B] (.bool (decide (A = B))) := by
  refine pcall_dr Try.func23 comp_ref14_Same ?_
  have bn : ∀ a : Int, (a != a) = false := fun a => by simp
  have rA : ((A.map rowV).length : Int) = (A.length : Int) := by simp
  have rB : ((B.map rowV).length : Int) = (B.length : Int) := by simp
  by_cases hl : ¬ A.length = B.length
  · have dl : ((A.length : Int) != (B.length : Int)) = true := by simp; omega
    have d : decide (A = B) = false := by simp only [decide_eq_false_iff_not]; intro hc; exact hl (by rw [hc])
    simp (config := {maxSteps := 4000000}) only [U_ref14_Same, pvV, rA, rB, dl, d, reduceIte, reduceCtorEq, Nat.reduceEqDiff, Nat.reduceAdd, Int.reduceLT, Int.reduceLE, Int.reduceNeg, Int.reduceEq, Nat.reduceLT, Nat.reduceSub, Nat.reduceMul, Nat.reduceBEq, Nat.reduceLeDiff, Int.reduceBEq, Int.reduceBNe, Int.reduceToNat, ne_eq, implies_true, bA]
  replace hl := Decidable.not_not.1 hl
  have dl : ((A.length : Int) != (B.length : Int)) = false := by simp; omega
  simp (config := {maxSteps := 4000000}) only [U_ref14_Same, pvV, rA, rB, dl, bn, reduceIte, reduceCtorEq, Nat.reduceEqDiff, Nat.reduceAdd, Int.reduceLT, Int.reduceLE, Int.reduceNeg, Int.reduceEq, Nat.reduceLT, Nat.reduceSub, Nat.reduceMul, Nat.reduceBEq, Nat.reduceLeDiff, Int.reduceBEq, Int.reduceBNe, Int.reduceToNat, ne_eq, implies_true, bA]
  refine loopF (fun i : Nat => ⟨ofL [(2, .ref 0 0), (3, .ref 1 0), (5, .int .i64 (i : Int))], [.box [.int .i64 K, .slc (A.map rowV)], .box [.int .i64 K, .slc (B.map rowV)]]⟩) (fun i => i ≤ A.length ∧ A.take i = B.take i) (fun i => A.length - i) 0 ?_ ⟨Nat.zero_le _, by simp⟩ ?_
  · simp (config := {maxSteps := 4000000}) only [U_ref14_Same, reduceIte, reduceCtorEq, Nat.reduceEqDiff, Nat.reduceAdd, Int.reduceLT, Int.reduceLE, Int.reduceNeg, Int.reduceEq, Nat.reduceLT, Nat.reduceSub, Nat.reduceMul, Nat.reduceBEq, Nat.reduceLeDiff, Int.reduceBEq, Int.reduceBNe, Int.reduceToNat, ne_eq, implies_true, bA]
    all_goals rfl
  · rintro i ⟨hi, ht⟩
    by_cases hlt : i < A.length
    · have d1 : decide ((i : Int) < (A.length : Int)) = true := by simpa using hlt
      have hltB : i < B.length := by omega
      have e1 : IntKind.i64.wrap ((i : Int) + 1) = ((i + 1 : Nat) : Int) := by rw [wrapI (by omega) (by omega)]; omega
      have islA := fun ob fb => islV_map (ob := ob) (fb := fb) (k := .i64) (g := rowV) hlt (rowV_len _)
      have islB := fun ob fb => islV_map (ob := ob) (fb := fb) (k := .i64) (g := rowV) hltB (rowV_len _)
      have hno : A[i] ≠ B[i] → decide (A = B) = false := fun hne => by
        simp only [decide_eq_false_iff_not]
        intro hc; subst hc; exact hne rfl
      have hsl := hS A[i] (List.getElem_mem hlt)
      obtain ⟨x, hx⟩ : ∃ x, A[i] = x := ⟨_, rfl⟩
      obtain ⟨y, hy⟩ : ∃ y, B[i] = y := ⟨_, rfl⟩
      rw [hx] at islA hno hsl
      rw [hy] at islB hno
      by_cases c1 : ¬ x.id = y.id
      · have dc : (x.id != y.id) = true := by simpa using c1
        have d := hno fun h => c1 (by rw [h])
        simp (config := {maxSteps := 4000000}) only [U_ref14_Same, rA, d1, islA, islB, rowV, dc, d, AOps_tg, reduceIte, reduceCtorEq, Nat.reduceEqDiff, Nat.reduceAdd, Int.reduceLT, Int.reduceLE, Int.reduceNeg, Int.reduceEq, Nat.reduceLT, Nat.reduceSub, Nat.reduceMul, Nat.reduceBEq, Nat.reduceLeDiff, Int.reduceBEq, Int.reduceBNe, Int.reduceToNat, ne_eq, implies_true, bA]
      replace c1 := Decidable.not_not.1 c1
      have dc1 : (x.id != y.id) = false := by simpa using c1
      by_cases c2 : ¬ x.size = y.size
      · have dc : (x.size != y.size) = true := by simpa using c2
        have d := hno fun h => c2 (by rw [h])
        simp (config := {maxSteps := 4000000}) only [U_ref14_Same, rA, d1, islA, islB, rowV, dc1, dc, d, AOps_tg, reduceIte, reduceCtorEq, Nat.reduceEqDiff, Nat.reduceAdd, Int.reduceLT, Int.reduceLE, Int.reduceNeg, Int.reduceEq, Nat.reduceLT, Nat.reduceSub, Nat.reduceMul, Nat.reduceBEq, Nat.reduceLeDiff, Int.reduceBEq, Int.reduceBNe, Int.reduceToNat, ne_eq, implies_true, bA]
      replace c2 := Decidable.not_not.1 c2
      have dc2 : (x.size != y.size) = false := by simpa using c2
      have rx : ((x.S.map rowS).length : Int) = (x.S.length : Int) := by simp
      have ry : ((y.S.map rowS).length : Int) = (y.S.length : Int) := by simp
      by_cases c3 : ¬ x.S.length = y.S.length
      · have dc : ((x.S.length : Int) != (y.S.length : Int)) = true := by simp; omega
        have d := hno fun h => c3 (by rw [h])
        simp (config := {maxSteps := 4000000}) only [U_ref14_Same, rA, d1, islA, islB, rowV, dc1, dc2, rx, ry, dc, d, AOps_tg, reduceIte, reduceCtorEq, Nat.reduceEqDiff, Nat.reduceAdd, Int.reduceLT, Int.reduceLE, Int.reduceNeg, Int.reduceEq, Nat.reduceLT, Nat.reduceSub, Nat.reduceMul, Nat.reduceBEq, Nat.reduceLeDiff, Int.reduceBEq, Int.reduceBNe, Int.reduceToNat, ne_eq, implies_true, bA]
      replace c3 := Decidable.not_not.1 c3
      have dc3 : ((x.S.length : Int) != (y.S.length : Int)) = false := by simp; omega
      simp (config := {maxSteps := 4000000}) only [U_ref14_Same, rA, d1, islA, islB, rowV, dc1, dc2, rx, ry, dc3, AOps_tg, reduceIte, reduceCtorEq, Nat.reduceEqDiff, Nat.reduceAdd, Int.reduceLT, Int.reduceLE, Int.reduceNeg, Int.reduceEq, Nat.reduceLT, Nat.reduceSub, Nat.reduceMul, Nat.reduceBEq, Nat.reduceLeDiff, Int.reduceBEq, Int.reduceBNe, Int.reduceToNat, ne_eq, implies_true, bA]
      refine loopF (fun k : Nat => ⟨ofL [(2, .ref 0 0), (3, .ref 1 0), (5, .int .i64 (i : Int)), (6, .ref 2 0), (7, .ref 3 0), (8, .int .i64 (k : Int))], [.box [.int .i64 K, .slc (A.map rowV)], .box [.int .i64 K, .slc (B.map rowV)], .box [.int .i64 x.id, .int .i64 x.size, .slc (x.S.map rowS)], .box [.int .i64 y.id, .int .i64 y.size, .slc (y.S.map rowS)]]⟩) (fun k => k ≤ x.S.length ∧ x.S.take k = y.S.take k) (fun k => x.S.length - k) 0 ?_ ⟨Nat.zero_le _, by simp⟩ ?_
      · simp (config := {maxSteps := 4000000}) only [U_ref14_Same, reduceIte, reduceCtorEq, Nat.reduceEqDiff, Nat.reduceAdd, Int.reduceLT, Int.reduceLE, Int.reduceNeg, Int.reduceEq, Nat.reduceLT, Nat.reduceSub, Nat.reduceMul, Nat.reduceBEq, Nat.reduceLeDiff, Int.reduceBEq, Int.reduceBNe, Int.reduceToNat, ne_eq, implies_true, bA]
        all_goals rfl
      · rintro k ⟨hk, htk⟩
        by_cases hkn : k < x.S.length
        · have dk : decide ((k : Int) < (x.S.length : Int)) = true := by simpa using hkn
          have hkB : k < y.S.length := by omega
          have wk : IntKind.i64.wrap ((k : Int) + 1) = ((k + 1 : Nat) : Int) := by rw [wrapI (by omega) (by omega)]; omega
          have jA := fun ob fb => islV_map (ob := ob) (fb := fb) (k := .i64) (g := rowS) hkn (rowS_len _)
          have jB := fun ob fb => islV_map (ob := ob) (fb := fb) (k := .i64) (g := rowS) hkB (rowS_len _)
          by_cases ce : x.S[k] = y.S[k]
          · have da : (x.S[k].at_ == y.S[k].at_) = true := by rw [ce]; simp
            have db : (x.S[k].dat == y.S[k].dat) = true := by rw [ce]; simp
            simp (config := {maxSteps := 4000000}) only [U_ref14_Same, rx, dk, jA, jB, rowS, da, db, wk, reduceIte, reduceCtorEq, Nat.reduceEqDiff, Nat.reduceAdd, Int.reduceLT, Int.reduceLE, Int.reduceNeg, Int.reduceEq, Nat.reduceLT, Nat.reduceSub, Nat.reduceMul, Nat.reduceBEq, Nat.reduceLeDiff, Int.reduceBEq, Int.reduceBNe, Int.reduceToNat, ne_eq, implies_true, bA]
            exact ⟨k + 1, rfl, ⟨hkn, takeEq htk hkn hkB ce⟩, by omega⟩
          · have d := hno fun h => ce (by subst h; rfl)
            have dab : ((x.S[k].at_ == y.S[k].at_) && (x.S[k].dat == y.S[k].dat)) = false := by
              cases h1 : (x.S[k].at_ == y.S[k].at_) with
              | false => rfl
              | true =>
                cases h2 : (x.S[k].dat == y.S[k].dat) with
                | false => rfl
                | true =>
                  exfalso; apply ce
                  have g1 := eq_of_beq h1
                  have g2 := eq_of_beq h2
                  revert g1 g2
                  cases x.S[k]; cases y.S[k]
                  simp only
                  rintro rfl rfl; rfl
            simp (config := {maxSteps := 4000000}) only [U_ref14_Same, rx, dk, jA, jB, rowS, dab, d, reduceIte, reduceCtorEq, Nat.reduceEqDiff, Nat.reduceAdd, Int.reduceLT, Int.reduceLE, Int.reduceNeg, Int.reduceEq, Nat.reduceLT, Nat.reduceSub, Nat.reduceMul, Nat.reduceBEq, Nat.reduceLeDiff, Int.reduceBEq, Int.reduceBNe, Int.reduceToNat, ne_eq, implies_true, bA]
        · have dk : decide ((k : Int) < (x.S.length : Int)) = false := by simpa using hkn
          have hkx : k = x.S.length := by omega
          have hxy : A[i] = B[i] := by
            rw [hx, hy]
            have : x.S = y.S := by
              rw [hkx, List.take_length, c3, List.take_length] at htk
              exact htk
            cases x; cases y
            simp only at c1 c2 this
            rw [c1, c2, this]
          simp (config := {maxSteps := 4000000}) only [U_ref14_Same, rx, dk, e1, reduceIte, reduceCtorEq, Nat.reduceEqDiff, Nat.reduceAdd, Int.reduceLT, Int.reduceLE, Int.reduceNeg, Int.reduceEq, Nat.reduceLT, Nat.reduceSub, Nat.reduceMul, Nat.reduceBEq, Nat.reduceLeDiff, Int.reduceBEq, Int.reduceBNe, Int.reduceToNat, ne_eq, implies_true, bA]
          exact ⟨i + 1, rfl, ⟨hlt, takeEq ht hlt hltB hxy⟩, by omega⟩
    · have d1 : decide ((i : Int) < (A.length : Int)) = false := by simpa using hlt
      have hiA : i = A.length := by omega
      have hAB : A = B := by
        rw [hiA, List.take_length, hl, List.take_length] at ht
        exact ht
      have d : decide (A = B) = true := by simpa using hAB
      simp (config := {maxSteps := 4000000}) only [U_ref14_Same, rA, d1, d, reduceIte, reduceCtorEq, Nat.reduceEqDiff, Nat.reduceAdd, Int.reduceLT, Int.reduceLE, Int.reduceNeg, Int.reduceEq, Nat.reduceLT, Nat.reduceSub, Nat.reduceMul, Nat.reduceBEq, Nat.reduceLeDiff, Int.reduceBEq, Int.reduceBNe, Int.reduceToNat, ne_eq, implies_true, bA]

theorem copy_k {ob fp b cap A} (h : Mod ob fp b cap A) : ICall Try.prog 19 [.ref b 0] ob fun r ob' => ∃ fp', r = .ref (ob.length + 1) 0 ∧ Mod ob' fp' (ob.length + 1) cap A ∧ Frame ob [] ob' fp' := by
  obtain ⟨m, ck, E, h, _⟩ := h
  exact copy_i h
theorem Frame.wide2 {ob ob' : List AObj} {fp fp' : List Nat} (h : Frame ob [] ob' fp') (hl : ∀ i ∈ fp, i < ob.length) : (∀ i ∈ fp, ob'[i]? = ob[i]?) ∧ ∀ i ∈ fp', i ∉ fp := by
  refine ⟨fun i hi => h.out i (hl i hi) (by simp), fun i hi hc => ?_⟩
  rcases h.new i hi with h1 | h1
  · cases h1
  · have := hl i hc; omega
theorem Mod.set {ob fp b cap A} (h : Mod ob fp b cap A) {j : Nat} (hj : j ∉ fp) (x : AObj) : Mod (ob.set j x) fp b cap A := h.keep fun i hi => by rw [List.getElem?_set_ne]; rintro rfl; exact hj hi

/-- What there is behind the copying. -/
structure Cop (K : Int) (A B : List Spc) (bC pv pw : Nat) (fp fpC : List Nat) (O : List AObj) : Prop where
  m : Mod O fp 1 K A
  c : Mod O fpC bC K B
  dj : ∀ i ∈ fp, i ∉ fpC
  v : O[pv]? = some (.box [.int .i64 K, .slc (A.map rowV)])
  vC : pv ∉ fpC
  w : O[pw]? = some (.box [.int .i64 K, .slc (B.map rowV)])
  wm : pw ∉ fp
  wC : pw ∉ fpC
  ne : pv ≠ pw

set_option maxHeartbeats 4000000 in
theorem copies_law (c0 : Int) (l more : List Rq) : PCall Try.prog 8 [.int .i64 c0, .slc (l.map rowQ), .slc (more.map rowQ)] (.bool true) := by
  refine pcall_dr Try.func8 comp_law17_ModelCopies ?_
  by_cases hc : 200 < c0
  · have d : decide (200 < c0) = true := by simpa using hc
    simp only [reduceIte, reduceCtorEq, Nat.reduceEqDiff, Nat.reduceAdd, Int.reduceLT, Int.reduceLE, Int.reduceNeg, Int.reduceEq, Nat.reduceLT, Nat.reduceSub, Nat.reduceMul, Nat.reduceBEq, Nat.reduceLeDiff, Int.reduceBEq, Int.reduceBNe, Int.reduceToNat, ne_eq, implies_true, bA, vC, d]
    refine callI awake_spec ?_
    simp only [reduceIte, reduceCtorEq, Nat.reduceEqDiff, Nat.reduceAdd, Int.reduceLT, Int.reduceLE, Int.reduceNeg, Int.reduceEq, Nat.reduceLT, Nat.reduceSub, Nat.reduceMul, Nat.reduceBEq, Nat.reduceLeDiff, Int.reduceBEq, Int.reduceBNe, Int.reduceToNat, ne_eq, implies_true, bA, vC]
  have d : decide (200 < c0) = false := by simpa using hc
  simp only [reduceIte, reduceCtorEq, Nat.reduceEqDiff, Nat.reduceAdd, Int.reduceLT, Int.reduceLE, Int.reduceNeg, Int.reduceEq, Nat.reduceLT, Nat.reduceSub, Nat.reduceMul, Nat.reduceBEq, Nat.reduceLeDiff, Int.reduceBEq, Int.reduceBNe, Int.reduceToNat, ne_eq, implies_true, bA, vC, d]
  refine callM (new_i _ c0 (by omega)) ?_
  rintro r ob1 ⟨fp1, rfl, hM, hF⟩
  obtain ⟨K, hK⟩ : ∃ K, max c0 0 = K := ⟨_, rfl⟩
  have hn := new17_spec c0
  rw [hK] at hM hn
  replace hM : Mod ob1 fp1 1 K [] := hM
  simp only [reduceIte, reduceCtorEq, Nat.reduceEqDiff, Nat.reduceAdd, Int.reduceLT, Int.reduceLE, Int.reduceNeg, Int.reduceEq, Nat.reduceLT, Nat.reduceSub, Nat.reduceMul, Nat.reduceBEq, Nat.reduceLeDiff, Int.reduceBEq, Int.reduceBNe, Int.reduceToNat, ne_eq, implies_true, bA, vC]
  refine callI hn ?_
  obtain ⟨pv, hpv⟩ : ∃ pv, ob1.length = pv := ⟨_, rfl⟩
  have hp1 : (ob1 ++ [AObj.box [.int .i64 K, .slc (([] : List Spc).map rowV)]])[pv]? = some (.box [.int .i64 K, .slc (([] : List Spc).map rowV)]) ∧ pv ∉ fp1 := ⟨by rw [← hpv, ap0]; rfl, by rw [← hpv]; exact hM.out (Nat.le_refl _)⟩
  have pa0 : ∀ l, (ob1 ++ l)[pv]? = l[0]? := fun l => by rw [← hpv]; exact ap0 ob1 l
  have ps0 : ∀ l x, (ob1 ++ l).set pv x = ob1 ++ l.set 0 x := fun l x => by rw [← hpv]; exact st0 ob1 l x
  simp only [reduceIte, reduceCtorEq, Nat.reduceEqDiff, Nat.reduceAdd, Int.reduceLT, Int.reduceLE, Int.reduceNeg, Int.reduceEq, Nat.reduceLT, Nat.reduceSub, Nat.reduceMul, Nat.reduceBEq, Nat.reduceLeDiff, Int.reduceBEq, Int.reduceBNe, Int.reduceToNat, ne_eq, implies_true, bA, vC, pvV, hpv, pa0, ps0]
  refine loopF (fun x : List AObj × List Nat × List Spc × Nat => ⟨ofL [(1, .slc (l.map rowQ)), (2, .slc (more.map rowQ)), (7, .ref 1 0), (8, .ref pv 0), (9, .int .i64 (x.2.2.2 : Int))], x.1⟩)
    (fun x => Mod x.1 x.2.1 1 K x.2.2.1 ∧ (x.1[pv]? = some (.box [.int .i64 K, .slc (x.2.2.1.map rowV)]) ∧ pv ∉ x.2.1) ∧ x.2.2.2 ≤ l.length) (fun x => l.length - x.2.2.2) (ob1 ++ [AObj.box [.int .i64 K, .slc (([] : List Spc).map rowV)]], fp1, [], 0) ?_ ⟨hM.app, hp1, Nat.zero_le _⟩ ?_
  · simp only [reduceIte, reduceCtorEq, Nat.reduceEqDiff, Nat.reduceAdd, Int.reduceLT, Int.reduceLE, Int.reduceNeg, Int.reduceEq, Nat.reduceLT, Nat.reduceSub, Nat.reduceMul, Nat.reduceBEq, Nat.reduceLeDiff, Int.reduceBEq, Int.reduceBNe, Int.reduceToNat, ne_eq, implies_true, bA, vC]
    all_goals rfl
  clear hM hF hp1 hpv
  rintro ⟨ob, fp, A, i⟩ ⟨hM, hp, hi⟩
  simp only at hM hp hi
  have hvol : VolOk K A := by obtain ⟨m, ck, E, h, _⟩ := hM; exact h.vol
  by_cases hlt : i < l.length ∧ i < 40
  · have d1 : decide ((i : Int) < (l.length : Int)) = true := by simp; omega
    have d2 : decide ((i : Int) < 40) = true := by simp; omega
    have e1 : IntKind.i64.wrap ((i : Int) + 1) = ((i + 1 : Nat) : Int) := by rw [wrapI (by omega) (by omega)]; omega
    have isl := fun ob fb => islV_map (ob := ob) (fb := fb) (k := .i64) (g := rowQ) (l := l) (e := 5) hlt.1 rfl
    obtain ⟨q, hq⟩ : ∃ q, l[i] = q := ⟨_, rfl⟩
    rw [hq] at isl
    simp only [reduceIte, reduceCtorEq, Nat.reduceEqDiff, Nat.reduceAdd, Int.reduceLT, Int.reduceLE, Int.reduceNeg, Int.reduceEq, Nat.reduceLT, Nat.reduceSub, Nat.reduceMul, Nat.reduceBEq, Nat.reduceLeDiff, Int.reduceBEq, Int.reduceBNe, Int.reduceToNat, ne_eq, implies_true, bA, vC, d1, d2, isl]
    refine callI (small_spec q) ?_
    by_cases hqs : (q.d.length : Int) ≤ 1000
    · have dq : decide ((q.d.length : Int) ≤ 1000) = true := by simpa using hqs
      have hds := do17_spec K A hvol q (by omega)
      simp only [pvV] at hds
      simp only [reduceIte, reduceCtorEq, Nat.reduceEqDiff, Nat.reduceAdd, Int.reduceLT, Int.reduceLE, Int.reduceNeg, Int.reduceEq, Nat.reduceLT, Nat.reduceSub, Nat.reduceMul, Nat.reduceBEq, Nat.reduceLeDiff, Int.reduceBEq, Int.reduceBNe, Int.reduceToNat, ne_eq, implies_true, bA, vC, dq, isl]
      refine callM (do_m hM q (by omega)) ?_
      rintro r ob2 ⟨ids, fp2, rfl, hM2, hF2, _⟩
      have hp2 := hF2.at hp
      have g0 := hp2.1
      simp only [reduceIte, reduceCtorEq, Nat.reduceEqDiff, Nat.reduceAdd, Int.reduceLT, Int.reduceLE, Int.reduceNeg, Int.reduceEq, Nat.reduceLT, Nat.reduceSub, Nat.reduceMul, Nat.reduceBEq, Nat.reduceLeDiff, Int.reduceBEq, Int.reduceBNe, Int.reduceToNat, ne_eq, implies_true, bA, vC, g0, isl]
      refine callI hds ?_
      simp only [reduceIte, reduceCtorEq, Nat.reduceEqDiff, Nat.reduceAdd, Int.reduceLT, Int.reduceLE, Int.reduceNeg, Int.reduceEq, Nat.reduceLT, Nat.reduceSub, Nat.reduceMul, Nat.reduceBEq, Nat.reduceLeDiff, Int.reduceBEq, Int.reduceBNe, Int.reduceToNat, ne_eq, implies_true, bA, vC, g0, e1]
      exact ⟨(_, fp2, (doV K A q).1, i + 1), rfl, ⟨hM2.set hp2.2 _, ⟨List.getElem?_set_self (lt_of_get g0), hp2.2⟩, hlt.1⟩, by show l.length - (i + 1) < l.length - i; omega⟩
    · have dq : decide ((q.d.length : Int) ≤ 1000) = false := by simpa using hqs
      simp only [reduceIte, reduceCtorEq, Nat.reduceEqDiff, Nat.reduceAdd, Int.reduceLT, Int.reduceLE, Int.reduceNeg, Int.reduceEq, Nat.reduceLT, Nat.reduceSub, Nat.reduceMul, Nat.reduceBEq, Nat.reduceLeDiff, Int.reduceBEq, Int.reduceBNe, Int.reduceToNat, ne_eq, implies_true, bA, vC, dq, e1]
      exact ⟨(ob, fp, A, i + 1), rfl, ⟨hM, hp, hlt.1⟩, by show l.length - (i + 1) < l.length - i; omega⟩
  have hd : ((decide ((i : Int) < (l.length : Int))) = false) ∨ (decide ((i : Int) < (l.length : Int)) = true ∧ decide ((i : Int) < 40) = false) := by
    by_cases h : i < l.length
    · right; simp; omega
    · left; simp; omega
  rcases hd with dl | ⟨dl, dl2⟩
  all_goals first | simp only [reduceIte, reduceCtorEq, Nat.reduceEqDiff, Nat.reduceAdd, Int.reduceLT, Int.reduceLE, Int.reduceNeg, Int.reduceEq, Nat.reduceLT, Nat.reduceSub, Nat.reduceMul, Nat.reduceBEq, Nat.reduceLeDiff, Int.reduceBEq, Int.reduceBNe, Int.reduceToNat, ne_eq, implies_true, bA, vC, dl, dl2] | simp only [reduceIte, reduceCtorEq, Nat.reduceEqDiff, Nat.reduceAdd, Int.reduceLT, Int.reduceLE, Int.reduceNeg, Int.reduceEq, Nat.reduceLT, Nat.reduceSub, Nat.reduceMul, Nat.reduceBEq, Nat.reduceLeDiff, Int.reduceBEq, Int.reduceBNe, Int.reduceToNat, ne_eq, implies_true, bA, vC, dl]
  all_goals
    rw [mDN qp0_25.eq_1]
    refine ATO_mono _ (K := fun t => ∃ bC pw fpC, Cop K A A bC pv pw fp fpC t.ob ∧ t.sl 2 = .slc (more.map rowQ) ∧ t.sl 7 = .ref 1 0 ∧ t.sl 8 = .ref pv 0 ∧ t.sl 10 = .ref bC 0 ∧ t.sl 11 = .ref pw 0) ?_ ?_
    rotate_left
    · have hpA := fun l => apL hp.1 l
      have n1 : (pv == ob.length) = false := by have := lt_of_get hp.1; simp; omega
      have hon : ob.length ∉ fp := hM.out (Nat.le_refl _)
      have fin : ∀ (x : AObj) (ob3 : List AObj) (fpC : List Nat), Mod ob3 fpC (ob.length + 1 + 1) K A → Frame (ob ++ [x]) [] ob3 fpC → Cop K A A (ob.length + 1 + 1) pv ob.length fp fpC (ob3.set ob.length (.box [.int .i64 K, .slc (A.map rowV)])) ∧ ob3[ob.length]? = some x ∧ ob3[pv]? = some (.box [.int .i64 K, .slc (A.map rowV)]) := by
        intro x ob3 fpC hC hF
        obtain ⟨k1, k2⟩ := hF.wide2 (Mod.lt (hM.app (ex := [x])))
        have hx := (hF.at (j := ob.length) ⟨by rw [ap0]; rfl, by simp⟩)
        have hv := (hF.at (j := pv) ⟨hpA [x], by simp⟩)
        have hpl := lt_of_get hp.1
        refine ⟨⟨(hM.app.keep k1).set hon _, hC.set hx.2 _, fun j hj hc => k2 j hc hj, ?_, hv.2, List.getElem?_set_self (lt_of_get hx.1), hon, hx.2, by omega⟩, hx.1, hv.1⟩
        rw [List.getElem?_set_ne (by omega)]; exact hv.1
      simp only [reduceIte, reduceCtorEq, Nat.reduceEqDiff, Nat.reduceAdd, Int.reduceLT, Int.reduceLE, Int.reduceNeg, Int.reduceEq, Nat.reduceLT, Nat.reduceSub, Nat.reduceMul, Nat.reduceBEq, Nat.reduceLeDiff, Int.reduceBEq, Int.reduceBNe, Int.reduceToNat, ne_eq, implies_true, bA, v25, hpA, n1, ap0, st0]
      refine ⟨⟨?_, ⟨?_, ?_⟩⟩, ?_⟩
      all_goals
        refine callM (copy_k hM.app) ?_
        rintro r ob3 ⟨fpC, rfl, hC, hF⟩
        simp only [List.length_append, List.length_cons, List.length_nil, Nat.zero_add] at hC
        obtain ⟨f1, f2, f3⟩ := fin _ ob3 fpC hC hF
        have f4 : ∀ x, (ob3.set ob.length x)[ob.length]? = some x := fun x => List.getElem?_set_self (lt_of_get f2)
        have f5 : ∀ x y, (ob3.set ob.length x).set ob.length y = ob3.set ob.length y := fun x y => List.set_set ..
        have f6 : ∀ x, (ob3.set ob.length x)[pv]? = some (.box [.int .i64 K, .slc (A.map rowV)]) := fun x => by rw [List.getElem?_set_ne (by have := lt_of_get hp.1; omega)]; exact f3
        simp only [reduceIte, reduceCtorEq, Nat.reduceEqDiff, Nat.reduceAdd, Int.reduceLT, Int.reduceLE, Int.reduceNeg, Int.reduceEq, Nat.reduceLT, Nat.reduceSub, Nat.reduceMul, Nat.reduceBEq, Nat.reduceLeDiff, Int.reduceBEq, Int.reduceBNe, Int.reduceToNat, ne_eq, implies_true, bA, v25, n1, f2, f3, f4, f5, f6, ap0]
        exact ⟨_, _, _, f1, rfl, rfl⟩
    rintro ⟨f, O⟩ ⟨bC, pw, fpC, hcop, h2, h7, h8, h10, h11⟩
    simp only at hcop h2 h7 h8 h10 h11
    have hs1 := same_r hcop.c hcop.m
    have hs2 := same_r hcop.m hcop.c
    rw [show decide (K = K ∧ A = A) = true by simp] at hs1 hs2
    simp only [reduceIte, reduceCtorEq, Nat.reduceEqDiff, Nat.reduceAdd, Int.reduceLT, Int.reduceLE, Int.reduceNeg, Int.reduceEq, Nat.reduceLT, Nat.reduceSub, Nat.reduceMul, Nat.reduceBEq, Nat.reduceLeDiff, Int.reduceBEq, Int.reduceBNe, Int.reduceToNat, ne_eq, implies_true, bA, vC, h10]
    refine callI awake_spec ?_
    simp only [reduceIte, reduceCtorEq, Nat.reduceEqDiff, Nat.reduceAdd, Int.reduceLT, Int.reduceLE, Int.reduceNeg, Int.reduceEq, Nat.reduceLT, Nat.reduceSub, Nat.reduceMul, Nat.reduceBEq, Nat.reduceLeDiff, Int.reduceBEq, Int.reduceBNe, Int.reduceToNat, ne_eq, implies_true, bA, vC, h7, h10]
    refine callR hs1 ?_
    simp only [reduceIte, reduceCtorEq, Nat.reduceEqDiff, Nat.reduceAdd, Int.reduceLT, Int.reduceLE, Int.reduceNeg, Int.reduceEq, Nat.reduceLT, Nat.reduceSub, Nat.reduceMul, Nat.reduceBEq, Nat.reduceLeDiff, Int.reduceBEq, Int.reduceBNe, Int.reduceToNat, ne_eq, implies_true, bA, vC, h7, h10]
    refine callR hs2 ?_
    simp only [reduceIte, reduceCtorEq, Nat.reduceEqDiff, Nat.reduceAdd, Int.reduceLT, Int.reduceLE, Int.reduceNeg, Int.reduceEq, Nat.reduceLT, Nat.reduceSub, Nat.reduceMul, Nat.reduceBEq, Nat.reduceLeDiff, Int.reduceBEq, Int.reduceBNe, Int.reduceToNat, ne_eq, implies_true, bA, vC, h2, h7, h8, h10, h11]
    refine loopF (fun x : List AObj × List Nat × List Spc × Nat => ⟨ofL [(2, .slc (more.map rowQ)), (7, .ref 1 0), (8, .ref pv 0), (10, .ref bC 0), (11, .ref pw 0), (12, .int .i64 (x.2.2.2 : Int))], x.1⟩)
      (fun x => Cop K A x.2.2.1 bC pv pw fp x.2.1 x.1 ∧ x.2.2.2 ≤ more.length) (fun x => more.length - x.2.2.2) (O, fpC, A, 0) ?_ ⟨hcop, Nat.zero_le _⟩ ?_
    · simp only [reduceIte, reduceCtorEq, Nat.reduceEqDiff, Nat.reduceAdd, Int.reduceLT, Int.reduceLE, Int.reduceNeg, Int.reduceEq, Nat.reduceLT, Nat.reduceSub, Nat.reduceMul, Nat.reduceBEq, Nat.reduceLeDiff, Int.reduceBEq, Int.reduceBNe, Int.reduceToNat, ne_eq, implies_true, bA, vC, h2, h7, h8, h10, h11]
      all_goals rfl
    clear hs1 hs2 hcop h2 h7 h8 h10 h11
    rintro ⟨O, fpC, B, i2⟩ ⟨hcop, hi2⟩
    simp only at hcop hi2
    by_cases hlt2 : i2 < more.length
    · have d1 : decide ((i2 : Int) < (more.length : Int)) = true := by simpa using hlt2
      by_cases h20 : i2 < 20
      · have d2 : decide ((i2 : Int) < 20) = true := by simp; omega
        have e1 : IntKind.i64.wrap ((i2 : Int) + 1) = ((i2 + 1 : Nat) : Int) := by rw [wrapI (by omega) (by omega)]; omega
        have isl := fun ob fb => islV_map (ob := ob) (fb := fb) (k := .i64) (g := rowQ) (l := more) (e := 5) hlt2 rfl
        obtain ⟨q, hq⟩ : ∃ q, more[i2] = q := ⟨_, rfl⟩
        rw [hq] at isl
        simp only [reduceIte, reduceCtorEq, Nat.reduceEqDiff, Nat.reduceAdd, Int.reduceLT, Int.reduceLE, Int.reduceNeg, Int.reduceEq, Nat.reduceLT, Nat.reduceSub, Nat.reduceMul, Nat.reduceBEq, Nat.reduceLeDiff, Int.reduceBEq, Int.reduceBNe, Int.reduceToNat, ne_eq, implies_true, bA, vC, d1, d2, isl]
        refine callI (small_spec q) ?_
        by_cases hqs : ¬ (q.d.length : Int) ≤ 1000
        · have dq : decide ((q.d.length : Int) ≤ 1000) = false := by simpa using hqs
          simp only [reduceIte, reduceCtorEq, Nat.reduceEqDiff, Nat.reduceAdd, Int.reduceLT, Int.reduceLE, Int.reduceNeg, Int.reduceEq, Nat.reduceLT, Nat.reduceSub, Nat.reduceMul, Nat.reduceBEq, Nat.reduceLeDiff, Int.reduceBEq, Int.reduceBNe, Int.reduceToNat, ne_eq, implies_true, bA, vC, dq, e1]
          exact ⟨(O, fpC, B, i2 + 1), rfl, ⟨hcop, hlt2⟩, by show more.length - (i2 + 1) < more.length - i2; omega⟩
        replace hqs := Decidable.not_not.1 hqs
        have dq : decide ((q.d.length : Int) ≤ 1000) = true := by simpa using hqs
        have hvB : VolOk K B := by obtain ⟨m, ck, E, h, _⟩ := hcop.c; exact h.vol
        have hds := do17_spec K B hvB q (by omega)
        simp only [pvV] at hds
        simp only [reduceIte, reduceCtorEq, Nat.reduceEqDiff, Nat.reduceAdd, Int.reduceLT, Int.reduceLE, Int.reduceNeg, Int.reduceEq, Nat.reduceLT, Nat.reduceSub, Nat.reduceMul, Nat.reduceBEq, Nat.reduceLeDiff, Int.reduceBEq, Int.reduceBNe, Int.reduceToNat, ne_eq, implies_true, bA, vC, dq, isl]
        refine callM (do_m hcop.c q (by omega)) ?_
        rintro r ob3 ⟨ids, fp3, rfl, hC3, hF3, _⟩
        obtain ⟨B', hB'⟩ : ∃ B', (doV K B q).1 = B' := ⟨_, rfl⟩
        rw [hB'] at hC3 hds
        obtain ⟨hM3, dj3⟩ := hcop.m.frame hcop.dj hF3
        have hv3 := hF3.at ⟨hcop.v, hcop.vC⟩
        have hw3 := hF3.at ⟨hcop.w, hcop.wC⟩
        have g1 := hw3.1
        have hcop4 : Cop K A B' bC pv pw fp fp3 (ob3.set pw (.box [.int .i64 K, .slc (B'.map rowV)])) :=
          ⟨hM3.set hcop.wm _, hC3.set hw3.2 _, dj3, by rw [List.getElem?_set_ne (Ne.symm hcop.ne)]; exact hv3.1, hv3.2, List.getElem?_set_self (lt_of_get g1), hcop.wm, hw3.2, hcop.ne⟩
        simp only [reduceIte, reduceCtorEq, Nat.reduceEqDiff, Nat.reduceAdd, Int.reduceLT, Int.reduceLE, Int.reduceNeg, Int.reduceEq, Nat.reduceLT, Nat.reduceSub, Nat.reduceMul, Nat.reduceBEq, Nat.reduceLeDiff, Int.reduceBEq, Int.reduceBNe, Int.reduceToNat, ne_eq, implies_true, bA, vC, g1, isl]
        refine callI hds ?_
        have y1 := says_r hcop4.m
        have y2 := says_r hcop4.c
        have s1 := same_r hcop4.m hcop4.c
        have s2 := same_r hcop4.c hcop4.m
        have sv := sameV_spec K A B' (by have := hvol.len; omega) (fun s hs => by have h1 := usedV_mem hvol.srt hs; have h2 := hvol.use; have h3 := hvol.c1; omega)
        rw [show decide (K = K ∧ A = B') = decide (A = B') by simp] at s1
        rw [show decide (K = K ∧ B' = A) = decide (A = B') by simp only [true_and, eq_comm]] at s2
        generalize decide (A = B') = bb at s1 s2 sv
        have gv := hcop4.v
        have gw := hcop4.w
        simp only [pvV] at y1 y2 sv
        obtain ⟨O4, hO4⟩ : ∃ O4, ob3.set pw (.box [.int .i64 K, .slc (B'.map rowV)]) = O4 := ⟨_, rfl⟩
        rw [hO4] at hcop4 y1 y2 s1 s2 gv gw
        simp only [reduceIte, reduceCtorEq, Nat.reduceEqDiff, Nat.reduceAdd, Int.reduceLT, Int.reduceLE, Int.reduceNeg, Int.reduceEq, Nat.reduceLT, Nat.reduceSub, Nat.reduceMul, Nat.reduceBEq, Nat.reduceLeDiff, Int.reduceBEq, Int.reduceBNe, Int.reduceToNat, ne_eq, implies_true, bA, vC, g1, hO4, gv]
        refine callR y1 ?_
        simp only [reduceIte, reduceCtorEq, Nat.reduceEqDiff, Nat.reduceAdd, Int.reduceLT, Int.reduceLE, Int.reduceNeg, Int.reduceEq, Nat.reduceLT, Nat.reduceSub, Nat.reduceMul, Nat.reduceBEq, Nat.reduceLeDiff, Int.reduceBEq, Int.reduceBNe, Int.reduceToNat, ne_eq, implies_true, bA, vC, gw]
        refine callR y2 ?_
        simp only [reduceIte, reduceCtorEq, Nat.reduceEqDiff, Nat.reduceAdd, Int.reduceLT, Int.reduceLE, Int.reduceNeg, Int.reduceEq, Nat.reduceLT, Nat.reduceSub, Nat.reduceMul, Nat.reduceBEq, Nat.reduceLeDiff, Int.reduceBEq, Int.reduceBNe, Int.reduceToNat, ne_eq, implies_true, bA, vC]
        refine callR s1 ?_
        simp only [reduceIte, reduceCtorEq, Nat.reduceEqDiff, Nat.reduceAdd, Int.reduceLT, Int.reduceLE, Int.reduceNeg, Int.reduceEq, Nat.reduceLT, Nat.reduceSub, Nat.reduceMul, Nat.reduceBEq, Nat.reduceLeDiff, Int.reduceBEq, Int.reduceBNe, Int.reduceToNat, ne_eq, implies_true, bA, vC, gv, gw]
        refine callI sv ?_
        have hbb : (bb == bb) = true := by simp
        simp only [reduceIte, reduceCtorEq, Nat.reduceEqDiff, Nat.reduceAdd, Int.reduceLT, Int.reduceLE, Int.reduceNeg, Int.reduceEq, Nat.reduceLT, Nat.reduceSub, Nat.reduceMul, Nat.reduceBEq, Nat.reduceLeDiff, Int.reduceBEq, Int.reduceBNe, Int.reduceToNat, ne_eq, implies_true, bA, vC, hbb]
        refine callR s2 ?_
        refine callR s1 ?_
        simp only [reduceIte, reduceCtorEq, Nat.reduceEqDiff, Nat.reduceAdd, Int.reduceLT, Int.reduceLE, Int.reduceNeg, Int.reduceEq, Nat.reduceLT, Nat.reduceSub, Nat.reduceMul, Nat.reduceBEq, Nat.reduceLeDiff, Int.reduceBEq, Int.reduceBNe, Int.reduceToNat, ne_eq, implies_true, bA, vC, hbb, e1]
        exact ⟨(O4, fp3, B', i2 + 1), rfl, ⟨hcop4, hlt2⟩, by show more.length - (i2 + 1) < more.length - i2; omega⟩
      · have d2 : decide ((i2 : Int) < 20) = false := by simp; omega
        simp only [reduceIte, reduceCtorEq, Nat.reduceEqDiff, Nat.reduceAdd, Int.reduceLT, Int.reduceLE, Int.reduceNeg, Int.reduceEq, Nat.reduceLT, Nat.reduceSub, Nat.reduceMul, Nat.reduceBEq, Nat.reduceLeDiff, Int.reduceBEq, Int.reduceBNe, Int.reduceToNat, ne_eq, implies_true, bA, vC, d1, d2]
    · have d1 : decide ((i2 : Int) < (more.length : Int)) = false := by simpa using hlt2
      simp only [reduceIte, reduceCtorEq, Nat.reduceEqDiff, Nat.reduceAdd, Int.reduceLT, Int.reduceLE, Int.reduceNeg, Int.reduceEq, Nat.reduceLT, Nat.reduceSub, Nat.reduceMul, Nat.reduceBEq, Nat.reduceLeDiff, Int.reduceBEq, Int.reduceBNe, Int.reduceToNat, ne_eq, implies_true, bA, vC, d1]
end Go.Proofs.Ythjnfjgejdlbfaa.Aw
