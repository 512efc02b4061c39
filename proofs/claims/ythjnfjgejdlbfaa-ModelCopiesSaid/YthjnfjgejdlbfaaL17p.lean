/-
  A model that says what the document's says.
-/
import Derived.Test.YthjnfjgejdlbfaaL17q
import Derived.Test.YthjnfjgejdlbfaaPRef17
import Derived.Test.YthjnfjgejdlbfaaCodeP
set_option linter.unusedSimpArgs false
set_option linter.unusedVariables false
namespace Go.Proofs.Ythjnfjgejdlbfaa.Aw
open Go.RowKit

theorem same17_spec (e : Int) (d : List UInt8) (sz us : Int) (ids : List Int) (hi : ids.length ≤ 1000000) : PCall Try.prog 17 [repP e d sz us (.slc (rowsZ .i64 ids)), repP e d sz us (.slc (rowsZ .i64 ids))] (.bool true) := by
  refine pcall_dr Try.func17 comp_law17_Same ?_
  simp (config := {maxSteps := 4000000}) only [U_law17_Same, reduceIte, reduceCtorEq, Nat.reduceEqDiff, Nat.reduceAdd, Int.reduceLT, Int.reduceLE, Int.reduceNeg, Int.reduceEq, Nat.reduceLT, Nat.reduceSub, Nat.reduceMul, Nat.reduceBEq, Nat.reduceLeDiff, Int.reduceBEq, Int.reduceBNe, Int.reduceToNat, ne_eq, implies_true, bA]
  refine callI (rep16_spec e d sz us ids) ?_
  simp (config := {maxSteps := 4000000}) only [U_law17_Same, reduceIte, reduceCtorEq, Nat.reduceEqDiff, Nat.reduceAdd, Int.reduceLT, Int.reduceLE, Int.reduceNeg, Int.reduceEq, Nat.reduceLT, Nat.reduceSub, Nat.reduceMul, Nat.reduceBEq, Nat.reduceLeDiff, Int.reduceBEq, Int.reduceBNe, Int.reduceToNat, ne_eq, implies_true, bA]
  refine callI (same16_spec e d sz us ids hi) ?_
  simp (config := {maxSteps := 4000000}) only [U_law17_Same, reduceIte, reduceCtorEq, Nat.reduceEqDiff, Nat.reduceAdd, Int.reduceLT, Int.reduceLE, Int.reduceNeg, Int.reduceEq, Nat.reduceLT, Nat.reduceSub, Nat.reduceMul, Nat.reduceBEq, Nat.reduceLeDiff, Int.reduceBEq, Int.reduceBNe, Int.reduceToNat, ne_eq, implies_true, bA]
theorem readS_one {S : List Sc} (hs : SortedG S) {k : Nat} (hk : k < S.length) : readS S S[k].at_ 1 = S[k].dat := by
  have hg := getG_mem hs (List.getElem_mem hk)
  rw [key_sc] at hg
  simp only [readS, List.nil_append]
  rw [show S[k].at_ + ((0 : Nat) : Int) = S[k].at_ by omega, ofSc, hg]
theorem says_r {ob fp b K A} (h : Mod ob fp b K A) : RCall Try.prog 18 [.ref b 0, pvV K A] ob (.bool true) := by
  refine RCall.of (K := fun r ob' => r = .bool true ∧ ∃ ex, ob' = ob ++ ex) ?_ (fun r ob' h => h) rfl
  refine icall_dr Try.func18 comp_law17_says ?_
  have hvol : VolOk K A := by obtain ⟨m, ck, E, h, _⟩ := h; exact h.vol
  have hAl := hvol.len
  have bn : ∀ a : Int, (a != a) = false := fun a => by simp
  have hR : rowsO (some (AObj.list 1 ((A.map (·.id)).map fun n : Int => [PV.int .i64 n]))) 0 A.length = some ((A.map (·.id)).map fun n : Int => [PV.int .i64 n]) := rowsO_all (by simp)
  simp (config := {maxSteps := 4000000}) only [U_law17_says, pvV, reduceIte, reduceCtorEq, Nat.reduceEqDiff, Nat.reduceAdd, Int.reduceLT, Int.reduceLE, Int.reduceNeg, Int.reduceEq, Nat.reduceLT, Nat.reduceSub, Nat.reduceMul, Nat.reduceBEq, Nat.reduceLeDiff, Int.reduceBEq, Int.reduceBNe, Int.reduceToNat, ne_eq, implies_true, bA]
  refine callM (ids_j h.app) ?_
  rintro r ob2 ⟨rfl, x0, rfl⟩
  obtain ⟨pv, hpv⟩ : ∃ pv, ob.length = pv := ⟨_, rfl⟩
  obtain ⟨jI, hjI⟩ : ∃ jI, ob.length + 1 + 1 = jI := ⟨_, rfl⟩
  have hP : (ob ++ [AObj.box [.int .i64 K, .slc (A.map rowV)], x0, .list 1 (rowsZ .i64 (A.map (·.id)))])[pv]? = some (.box [.int .i64 K, .slc (A.map rowV)]) := by rw [← hpv, ap0]; rfl
  have hI : (ob ++ [AObj.box [.int .i64 K, .slc (A.map rowV)], x0, .list 1 (rowsZ .i64 (A.map (·.id)))])[jI]? = some (.list 1 (rowsZ .i64 (A.map (·.id)))) := by rw [← hjI, ap2]; rfl
  have hM2 : Mod (ob ++ [AObj.box [.int .i64 K, .slc (A.map rowV)], x0, .list 1 (rowsZ .i64 (A.map (·.id)))]) fp b K A := h.app
  obtain ⟨O, hO⟩ : ∃ O, ob ++ [AObj.box [.int .i64 K, .slc (A.map rowV)], x0, .list 1 (rowsZ .i64 (A.map (·.id)))] = O := ⟨_, rfl⟩
  have hOx : ∃ ex, O = ob ++ ex := ⟨_, hO.symm⟩
  have hl0 : (ob ++ [AObj.box [.int .i64 K, .slc (A.map rowV)]]).length + 1 = jI := by simp; omega
  simp only [List.length_append, List.length_cons, List.length_nil, Nat.zero_add, List.append_assoc, List.cons_append, List.nil_append]
  rw [hjI, hpv, hO]
  rw [hO] at hP hI hM2
  simp (config := {maxSteps := 4000000}) only [U_law17_says, hP, hI, hR, rowsZ, bn, reduceIte, reduceCtorEq, Nat.reduceEqDiff, Nat.reduceAdd, Int.reduceLT, Int.reduceLE, Int.reduceNeg, Int.reduceEq, Nat.reduceLT, Nat.reduceSub, Nat.reduceMul, Nat.reduceBEq, Nat.reduceLeDiff, Int.reduceBEq, Int.reduceBNe, Int.reduceToNat, ne_eq, implies_true, bA]
  refine loopF (fun x : List AObj × Nat => ⟨ofL [(0, .ref b 0), (3, .ref pv 0), (5, .osl jI 0 A.length), (6, .int .i64 (x.2 : Int))], x.1⟩)
    (fun x => Mod x.1 fp b K A ∧ x.1[pv]? = some (.box [.int .i64 K, .slc (A.map rowV)]) ∧ x.1[jI]? = some (.list 1 (rowsZ .i64 (A.map (·.id)))) ∧ (∃ ex, x.1 = ob ++ ex) ∧ x.2 ≤ A.length) (fun x => A.length - x.2) (O, 0) ?_ ⟨hM2, hP, hI, hOx, Nat.zero_le _⟩ ?_
  · simp (config := {maxSteps := 4000000}) only [U_law17_says, reduceIte, reduceCtorEq, Nat.reduceEqDiff, Nat.reduceAdd, Int.reduceLT, Int.reduceLE, Int.reduceNeg, Int.reduceEq, Nat.reduceLT, Nat.reduceSub, Nat.reduceMul, Nat.reduceBEq, Nat.reduceLeDiff, Int.reduceBEq, Int.reduceBNe, Int.reduceToNat, ne_eq, implies_true, bA]
    all_goals rfl
  clear hM2 hP hI hOx hO
  rintro ⟨O, i⟩ ⟨hM, hP, hI, hOx, hi⟩
  simp only at hM hP hI hOx hi
  by_cases hlt : i < A.length
  · have d1 : decide ((i : Int) < (A.length : Int)) = true := by simpa using hlt
    have e1 : IntKind.i64.wrap ((i : Int) + 1) = ((i + 1 : Nat) : Int) := by rw [wrapI (by omega) (by omega)]; omega
    have hlt' : i < (A.map (·.id)).length := by simpa using hlt
    have hid : (A.map (·.id))[i] = A[i].id := by simp
    have i1 := islO_map (g := fun n : Int => [PV.int .i64 n]) (l := A.map (·.id)) (e := 1) (o := jI) (m := A.length) (k := .i64) (by simp) hlt'
    have i3 := ldL_map (g := fun n : Int => [PV.int .i64 n]) (l := A.map (·.id)) (e := 1) (len := A.length) (off := 0) (n := 1) (by simp) hlt' (by simp)
    rw [hid] at i3
    have isl := fun ob fb => islV_map (ob := ob) (fb := fb) (k := .i64) (g := rowV) hlt (rowV_len _)
    obtain ⟨s, hs⟩ : ∃ s, A[i] = s := ⟨_, rfl⟩
    rw [hs] at i3 isl
    have hsA : s ∈ A := by rw [← hs]; exact List.getElem_mem hlt
    have hg : getG s.id A = some s := getG_mem hvol.srt hsA
    have hsec := hvol.sec s hsA
    have hsz := hvol.szs s hsA
    have hus := usedV_mem hvol.srt hsA
    have hue := hvol.use
    have huc := hvol.c1
    have hPA := fun l => apL hP l
    have hIA := fun l => apL hI l
    have hRs : rowsO (some (AObj.list 1 ((s.S.map (·.at_)).map fun n : Int => [PV.int .i64 n]))) 0 s.S.length = some ((s.S.map (·.at_)).map fun n : Int => [PV.int .i64 n]) := rowsO_all (by simp)
    simp (config := {maxSteps := 4000000}) only [U_law17_says, d1, hI, hP, hPA, hIA, hR, i1, i3, rowsZ, isl, rowV, ap0, st0, reduceIte, reduceCtorEq, Nat.reduceEqDiff, Nat.reduceAdd, Int.reduceLT, Int.reduceLE, Int.reduceNeg, Int.reduceEq, Nat.reduceLT, Nat.reduceSub, Nat.reduceMul, Nat.reduceBEq, Nat.reduceLeDiff, Int.reduceBEq, Int.reduceBNe, Int.reduceToNat, ne_eq, implies_true, bA]
    refine callM (at_j hM.app hg) ?_
    rintro r ob3 ⟨rfl, x1, rfl⟩
    obtain ⟨ps, hps⟩ : ∃ ps, O.length = ps := ⟨_, rfl⟩
    obtain ⟨ja, hja⟩ : ∃ ja, O.length + 1 + 1 = ja := ⟨_, rfl⟩
    obtain ⟨P, hPe⟩ : ∃ P, O ++ [AObj.box [.int .i64 s.id, .int .i64 s.size, .slc (s.S.map rowS)], x1, .list 1 (rowsZ .i64 (s.S.map (·.at_)))] = P := ⟨_, rfl⟩
    have k0 : P[ps]? = some (.box [.int .i64 s.id, .int .i64 s.size, .slc (s.S.map rowS)]) := by rw [← hPe, ← hps, ap0]; rfl
    have k1 : P[ja]? = some (.list 1 (rowsZ .i64 (s.S.map (·.at_)))) := by rw [← hPe, ← hja, ap2]; rfl
    have k2 : P[pv]? = some (.box [.int .i64 K, .slc (A.map rowV)]) := by rw [← hPe]; exact hPA _
    have k3 : P[jI]? = some (.list 1 (rowsZ .i64 (A.map (·.id)))) := by rw [← hPe]; exact hIA _
    have k4 : Mod P fp b K A := by rw [← hPe]; exact hM.app
    have k5 : ∃ ex, P = ob ++ ex := by obtain ⟨ex, hex⟩ := hOx; exact ⟨ex ++ _, by rw [← hPe, hex, List.append_assoc]⟩
    simp only [List.length_append, List.length_cons, List.length_nil, Nat.zero_add, List.append_assoc, List.cons_append, List.nil_append]
    rw [hja, hps, hPe]
    clear hM hP hI hOx hPA hIA hPe hja hps
    simp (config := {maxSteps := 4000000}) only [U_law17_says, k0, k1, k2, k3, hR, hRs, i1, i3, rowsZ, bn, reduceIte, reduceCtorEq, Nat.reduceEqDiff, Nat.reduceAdd, Int.reduceLT, Int.reduceLE, Int.reduceNeg, Int.reduceEq, Nat.reduceLT, Nat.reduceSub, Nat.reduceMul, Nat.reduceBEq, Nat.reduceLeDiff, Int.reduceBEq, Int.reduceBNe, Int.reduceToNat, ne_eq, implies_true, bA]
    refine loopF (fun x : List AObj × Nat => ⟨ofL [(0, .ref b 0), (3, .ref pv 0), (5, .osl jI 0 A.length), (6, .int .i64 (i : Int)), (7, .ref ps 0), (8, .osl ja 0 s.S.length), (9, .int .i64 (x.2 : Int))], x.1⟩)
      (fun x => (Mod x.1 fp b K A ∧ x.1[pv]? = some (.box [.int .i64 K, .slc (A.map rowV)]) ∧ x.1[jI]? = some (.list 1 (rowsZ .i64 (A.map (·.id)))) ∧ (∃ ex, x.1 = ob ++ ex)) ∧ x.1[ps]? = some (.box [.int .i64 s.id, .int .i64 s.size, .slc (s.S.map rowS)]) ∧ x.1[ja]? = some (.list 1 (rowsZ .i64 (s.S.map (·.at_)))) ∧ x.2 ≤ s.S.length) (fun x => s.S.length - x.2) (P, 0) ?_ ⟨⟨k4, k2, k3, k5⟩, k0, k1, Nat.zero_le _⟩ ?_
    · simp (config := {maxSteps := 4000000}) only [U_law17_says, reduceIte, reduceCtorEq, Nat.reduceEqDiff, Nat.reduceAdd, Int.reduceLT, Int.reduceLE, Int.reduceNeg, Int.reduceEq, Nat.reduceLT, Nat.reduceSub, Nat.reduceMul, Nat.reduceBEq, Nat.reduceLeDiff, Int.reduceBEq, Int.reduceBNe, Int.reduceToNat, ne_eq, implies_true, bA]
      all_goals rfl
    clear k0 k1 k2 k3 k4 k5
    rintro ⟨P, k⟩ ⟨⟨hM, hP, hI, hOx⟩, hS, hA, hk⟩
    simp only at hM hP hI hOx hS hA hk
    by_cases hkn : k < s.S.length
    · have dk : decide ((k : Int) < (s.S.length : Int)) = true := by simpa using hkn
      have wk1 : IntKind.i64.wrap ((k : Int) + 1) = ((k + 1 : Nat) : Int) := by rw [wrapI (by omega) (by omega)]; omega
      have hlk : k < (s.S.map (·.at_)).length := by simpa using hkn
      have hat : (s.S.map (·.at_))[k] = s.S[k].at_ := by simp
      have j1 := islO_map (g := fun n : Int => [PV.int .i64 n]) (l := s.S.map (·.at_)) (e := 1) (o := ja) (m := s.S.length) (k := .i64) (by simp) hlk
      have j3 := ldL_map (g := fun n : Int => [PV.int .i64 n]) (l := s.S.map (·.at_)) (e := 1) (len := s.S.length) (off := 0) (n := 1) (by simp) hlk (by simp)
      rw [hat] at j3
      have jsl := fun ob fb => islV_map (ob := ob) (fb := fb) (k := .i64) (g := rowS) hkn (rowS_len _)
      have hrg := hsec.rng _ (List.getElem_mem hkn)
      have hone := readS_one hsec.srt hkn
      obtain ⟨y, hy⟩ : ∃ y, s.S[k] = y := ⟨_, rfl⟩
      rw [hy] at j3 jsl hrg hone
      have hPA := fun l => apL hP l
      have hIA := fun l => apL hI l
      have hSA := fun l => apL hS l
      have hAA := fun l => apL hA l
      have n1 : (ps == P.length) = false := by have := lt_of_get hS; simp; omega
      have n2 : (ja == P.length) = false := by have := lt_of_get hA; simp; omega
      have h7 := do7_i (hM.app (ex := [AObj.none])) hg hrg.1 hrg.2
      have h7b := do7_i (hM.app (ex := [AObj.box [.int .i64 0, .str [], .int .i64 0, .int .i64 0, .slc []]])) hg hrg.1 hrg.2
      rw [hone] at h7 h7b
      simp (config := {maxSteps := 4000000}) only [U_law17_says, dk, hS, hA, hSA, hAA, hRs, j1, j3, rowsZ, n1, n2, ap0, st0, reduceIte, reduceCtorEq, Nat.reduceEqDiff, Nat.reduceAdd, Int.reduceLT, Int.reduceLE, Int.reduceNeg, Int.reduceEq, Nat.reduceLT, Nat.reduceSub, Nat.reduceMul, Nat.reduceBEq, Nat.reduceLeDiff, Int.reduceBEq, Int.reduceBNe, Int.reduceToNat, ne_eq, implies_true, bA]
      refine ⟨callM h7 ?_, callM h7b ?_⟩
      all_goals
        rintro r ob5 ⟨rfl, ex, rfl⟩
        simp (config := {maxSteps := 4000000}) only [U_law17_says, hSA, hAA, hRs, j1, j3, rowsZ, n1, n2, ap0, st0, jsl, rowS, bn, wk1, reduceIte, reduceCtorEq, Nat.reduceEqDiff, Nat.reduceAdd, Int.reduceLT, Int.reduceLE, Int.reduceNeg, Int.reduceEq, Nat.reduceLT, Nat.reduceSub, Nat.reduceMul, Nat.reduceBEq, Nat.reduceLeDiff, Int.reduceBEq, Int.reduceBNe, Int.reduceToNat, ne_eq, implies_true, bA]
        refine ⟨(P ++ _ :: ex, k + 1), rfl, ⟨⟨hM.app, hPA _, hIA _, ?_⟩, hSA _, hAA _, hkn⟩, by show s.S.length - (k + 1) < s.S.length - k; omega⟩
        obtain ⟨e9, h9⟩ := hOx
        exact ⟨e9 ++ _, by rw [h9, List.append_assoc]⟩
    · have dk : decide ((k : Int) < (s.S.length : Int)) = false := by simpa using hkn
      simp (config := {maxSteps := 4000000}) only [U_law17_says, dk, hA, hRs, rowsZ, e1, reduceIte, reduceCtorEq, Nat.reduceEqDiff, Nat.reduceAdd, Int.reduceLT, Int.reduceLE, Int.reduceNeg, Int.reduceEq, Nat.reduceLT, Nat.reduceSub, Nat.reduceMul, Nat.reduceBEq, Nat.reduceLeDiff, Int.reduceBEq, Int.reduceBNe, Int.reduceToNat, ne_eq, implies_true, bA]
      exact ⟨(P, i + 1), rfl, ⟨hM, hP, hI, hOx, hlt⟩, by show A.length - (i + 1) < A.length - i; omega⟩
  · have d1 : decide ((i : Int) < (A.length : Int)) = false := by simpa using hlt
    simp (config := {maxSteps := 4000000}) only [U_law17_says, d1, hI, hR, rowsZ, reduceIte, reduceCtorEq, Nat.reduceEqDiff, Nat.reduceAdd, Int.reduceLT, Int.reduceLE, Int.reduceNeg, Int.reduceEq, Nat.reduceLT, Nat.reduceSub, Nat.reduceMul, Nat.reduceBEq, Nat.reduceLeDiff, Int.reduceBEq, Int.reduceBNe, Int.reduceToNat, ne_eq, implies_true, bA]
    exact ⟨_, rfl, rfl, hOx⟩

theorem do_m {ob fp b cap A} (h : Mod ob fp b cap A) (q : Rq) (hq : q.d.length ≤ 1000) :
    ICall Try.prog 12 [.ref b 0, pQ q] ob fun r ob' => ∃ ids fp', r = repP (doV cap A q).2.e (doV cap A q).2.d (doV cap A q).2.sz (doV cap A q).2.us ids ∧ Mod ob' fp' b cap (doV cap A q).1 ∧ Frame ob fp ob' fp' ∧
      ((ids = .slc [] ∧ tellI A q = []) ∨ ∃ j, ids = .osl j 0 A.length ∧ ob'[j]? = some (.list 1 (rowsZ .i64 (A.map (·.id)))) ∧ tellI A q = A.map (·.id)) := by
  refine callM (do_i h q hq) ?_
  rintro r ob' ⟨ids, fp', h1, h2, h3, h4, h5⟩
  refine ⟨ids, fp', h1, h2, h3, ?_⟩
  by_cases c : q.op = 10
  · obtain ⟨j, h6, h7, _⟩ := h5 c
    exact .inr ⟨j, h6, h7, if_pos c⟩
  · exact .inl ⟨h4 c, if_neg c⟩
theorem Frame.at2 {ob ob' : List AObj} {fp fp' : List Nat} (hF : Frame ob fp ob' fp') {j : Nat} {x : AObj} (h : ob[j]? = some x ∧ j ∉ fp) : ob'[j]? = some x ∧ j ∉ fp' := hF.at h

end Go.Proofs.Ythjnfjgejdlbfaa.Aw
