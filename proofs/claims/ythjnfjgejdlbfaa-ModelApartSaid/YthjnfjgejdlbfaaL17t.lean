/-
  ModelTwice: asked twice is once.
-/
import Derived.Test.YthjnfjgejdlbfaaL17
import Derived.Test.YthjnfjgejdlbfaaMMod4
import Derived.Test.YthjnfjgejdlbfaaPCopy
import Derived.Test.YthjnfjgejdlbfaaCodeT
set_option linter.unusedSimpArgs false
set_option linter.unusedVariables false
namespace Go.Proofs.Ythjnfjgejdlbfaa.Aw
open Go.RowKit

theorem do_w {ob fp b cap A} (h : Mod ob fp b cap A) (q : Rq) (hq : q.d.length ≤ 1000) {A' : List Spc} {e sz us : Int} {d : List UInt8} (hd : doV cap A q = (A', ⟨e, d, sz, us⟩)) :
    ICall Try.prog 12 [.ref b 0, pQ q] ob fun r ob' => ∃ ids fp', r = repP e d sz us ids ∧ Mod ob' fp' b cap A' ∧ Frame ob fp ob' fp' ∧ (ids = .slc [] ∨ ∃ j n, ids = .osl j 0 n) := by
  refine callM (do_i h q hq) ?_
  rintro r ob' ⟨ids, fp', h1, h2, h3, h4, h5⟩
  rw [hd] at h1 h2
  refine ⟨ids, fp', h1, h2, h3, ?_⟩
  by_cases c : q.op = 10
  · obtain ⟨j, h6, _⟩ := h5 c
    exact .inr ⟨j, _, h6⟩
  · exact .inl (h4 c)
theorem copy_j {ob fp b cap A} (h : Mod ob fp b cap A) : ICall Try.prog 19 [.ref b 0] ob fun r ob' => ∃ fp', r = .ref (ob.length + 1) 0 ∧ Mod ob' fp' (ob.length + 1) cap A ∧ Frame ob [] ob' fp' := by
  obtain ⟨m, ck, E, h, _⟩ := h
  exact copy_i h
theorem Frame.wide {ob ob' : List AObj} {fp fp' : List Nat} (h : Frame ob [] ob' fp') (hl : ∀ i ∈ fp, i < ob.length) : (∀ i ∈ fp, ob'[i]? = ob[i]?) ∧ ∀ i ∈ fp', i ∉ fp := by
  refine ⟨fun i hi => h.out i (hl i hi) (by simp), fun i hi hc => ?_⟩
  rcases h.new i hi with h1 | h1
  · cases h1
  · have := hl i hc; omega
theorem Mod.vol {ob fp b cap A} (h : Mod ob fp b cap A) : VolOk cap A := by obtain ⟨m, ck, E, h, _⟩ := h; exact h.vol

set_option maxHeartbeats 2000000 in
theorem twice_law (c0 : Int) (l : List Rq) (q : Rq) : PCall Try.prog 7 [.int .i64 c0, .slc (l.map rowQ), pQ q] (.bool true) := by
  refine pcall_dr Try.func7 comp_law17_ModelTwice ?_
  by_cases hc : 200 < c0
  · have d : decide (200 < c0) = true := by simpa using hc
    simp (config := {maxSteps := 4000000}) only [U_law17_ModelTwice, d, reduceIte, reduceCtorEq, Nat.reduceEqDiff, Nat.reduceAdd, Int.reduceLT, Int.reduceLE, Int.reduceNeg, Int.reduceEq, Nat.reduceLT, Nat.reduceSub, Nat.reduceMul, Nat.reduceBEq, Nat.reduceLeDiff, Int.reduceBEq, Int.reduceBNe, Int.reduceToNat, ne_eq, implies_true, bA]
    refine callI awake_spec ?_
    simp (config := {maxSteps := 4000000}) only [U_law17_ModelTwice, reduceIte, reduceCtorEq, Nat.reduceEqDiff, Nat.reduceAdd, Int.reduceLT, Int.reduceLE, Int.reduceNeg, Int.reduceEq, Nat.reduceLT, Nat.reduceSub, Nat.reduceMul, Nat.reduceBEq, Nat.reduceLeDiff, Int.reduceBEq, Int.reduceBNe, Int.reduceToNat, ne_eq, implies_true, bA]
  have d : decide (200 < c0) = false := by simpa using hc
  simp (config := {maxSteps := 4000000}) only [U_law17_ModelTwice, d, reduceIte, reduceCtorEq, Nat.reduceEqDiff, Nat.reduceAdd, Int.reduceLT, Int.reduceLE, Int.reduceNeg, Int.reduceEq, Nat.reduceLT, Nat.reduceSub, Nat.reduceMul, Nat.reduceBEq, Nat.reduceLeDiff, Int.reduceBEq, Int.reduceBNe, Int.reduceToNat, ne_eq, implies_true, bA]
  refine callI (small_spec q) ?_
  by_cases hq : ¬ (q.d.length : Int) ≤ 1000
  · have dq : decide ((q.d.length : Int) ≤ 1000) = false := by simpa using hq
    simp (config := {maxSteps := 4000000}) only [U_law17_ModelTwice, dq, reduceIte, reduceCtorEq, Nat.reduceEqDiff, Nat.reduceAdd, Int.reduceLT, Int.reduceLE, Int.reduceNeg, Int.reduceEq, Nat.reduceLT, Nat.reduceSub, Nat.reduceMul, Nat.reduceBEq, Nat.reduceLeDiff, Int.reduceBEq, Int.reduceBNe, Int.reduceToNat, ne_eq, implies_true, bA]
    refine callI awake_spec ?_
    simp (config := {maxSteps := 4000000}) only [U_law17_ModelTwice, reduceIte, reduceCtorEq, Nat.reduceEqDiff, Nat.reduceAdd, Int.reduceLT, Int.reduceLE, Int.reduceNeg, Int.reduceEq, Nat.reduceLT, Nat.reduceSub, Nat.reduceMul, Nat.reduceBEq, Nat.reduceLeDiff, Int.reduceBEq, Int.reduceBNe, Int.reduceToNat, ne_eq, implies_true, bA]
  replace hq := Decidable.not_not.1 hq
  have dq : decide ((q.d.length : Int) ≤ 1000) = true := by simpa using hq
  have hq' : q.d.length ≤ 1000 := by omega
  simp (config := {maxSteps := 4000000}) only [U_law17_ModelTwice, dq, reduceIte, reduceCtorEq, Nat.reduceEqDiff, Nat.reduceAdd, Int.reduceLT, Int.reduceLE, Int.reduceNeg, Int.reduceEq, Nat.reduceLT, Nat.reduceSub, Nat.reduceMul, Nat.reduceBEq, Nat.reduceLeDiff, Int.reduceBEq, Int.reduceBNe, Int.reduceToNat, ne_eq, implies_true, bA]
  refine callM (new_i _ c0 (by omega)) ?_
  rintro r ob1 ⟨fp1, rfl, hM, hF⟩
  obtain ⟨K, hK⟩ : ∃ K, max c0 0 = K := ⟨_, rfl⟩
  rw [hK] at hM
  replace hM : Mod ob1 fp1 2 K [] := hM
  have hr := hF.at (j := 0) (x := .box (rowQ q)) ⟨rfl, by simp⟩
  clear hF
  simp (config := {maxSteps := 4000000}) only [U_law17_ModelTwice, reduceIte, reduceCtorEq, Nat.reduceEqDiff, Nat.reduceAdd, Int.reduceLT, Int.reduceLE, Int.reduceNeg, Int.reduceEq, Nat.reduceLT, Nat.reduceSub, Nat.reduceMul, Nat.reduceBEq, Nat.reduceLeDiff, Int.reduceBEq, Int.reduceBNe, Int.reduceToNat, ne_eq, implies_true, bA]
  refine callI awake_spec ?_
  simp (config := {maxSteps := 4000000}) only [U_law17_ModelTwice, reduceIte, reduceCtorEq, Nat.reduceEqDiff, Nat.reduceAdd, Int.reduceLT, Int.reduceLE, Int.reduceNeg, Int.reduceEq, Nat.reduceLT, Nat.reduceSub, Nat.reduceMul, Nat.reduceBEq, Nat.reduceLeDiff, Int.reduceBEq, Int.reduceBNe, Int.reduceToNat, ne_eq, implies_true, bA]
  refine loopF (fun x : List AObj × List Nat × List Spc × Nat => ⟨ofL [(1, .slc (l.map rowQ)), (5, .ref 0 0), (7, .ref 2 0), (8, .int .i64 (x.2.2.2 : Int))], x.1⟩)
    (fun x => Mod x.1 x.2.1 2 K x.2.2.1 ∧ (x.1[0]? = some (.box (rowQ q)) ∧ 0 ∉ x.2.1) ∧ x.2.2.2 ≤ l.length) (fun x => l.length - x.2.2.2) (ob1, fp1, [], 0) ?_ ⟨hM, hr, Nat.zero_le _⟩ ?_
  · simp (config := {maxSteps := 4000000}) only [U_law17_ModelTwice, reduceIte, reduceCtorEq, Nat.reduceEqDiff, Nat.reduceAdd, Int.reduceLT, Int.reduceLE, Int.reduceNeg, Int.reduceEq, Nat.reduceLT, Nat.reduceSub, Nat.reduceMul, Nat.reduceBEq, Nat.reduceLeDiff, Int.reduceBEq, Int.reduceBNe, Int.reduceToNat, ne_eq, implies_true, bA]
    all_goals rfl
  clear hM hr
  rintro ⟨ob, fp, A, i⟩ ⟨hM, hr, hi⟩
  simp only at hM hr hi
  by_cases hlt : i < l.length ∧ i < 40
  · have d1 : decide ((i : Int) < (l.length : Int)) = true := by simp; omega
    have d2 : decide ((i : Int) < 40) = true := by simp; omega
    have e1 : IntKind.i64.wrap ((i : Int) + 1) = ((i + 1 : Nat) : Int) := by rw [wrapI (by omega) (by omega)]; omega
    have isl := fun ob fb => islV_map (ob := ob) (fb := fb) (k := .i64) (g := rowQ) (l := l) (e := 5) hlt.1 rfl
    obtain ⟨p, hp⟩ : ∃ p, l[i] = p := ⟨_, rfl⟩
    rw [hp] at isl
    simp (config := {maxSteps := 4000000}) only [U_law17_ModelTwice, d1, d2, isl, reduceIte, reduceCtorEq, Nat.reduceEqDiff, Nat.reduceAdd, Int.reduceLT, Int.reduceLE, Int.reduceNeg, Int.reduceEq, Nat.reduceLT, Nat.reduceSub, Nat.reduceMul, Nat.reduceBEq, Nat.reduceLeDiff, Int.reduceBEq, Int.reduceBNe, Int.reduceToNat, ne_eq, implies_true, bA]
    refine callI (small_spec p) ?_
    by_cases hps : (p.d.length : Int) ≤ 1000
    · have dp : decide ((p.d.length : Int) ≤ 1000) = true := by simpa using hps
      obtain ⟨A', e, dd, sz, us, hd⟩ : ∃ A' e dd sz us, doV K A p = (A', ⟨e, dd, sz, us⟩) := ⟨_, _, _, _, _, rfl⟩
      simp (config := {maxSteps := 4000000}) only [U_law17_ModelTwice, dp, isl, reduceIte, reduceCtorEq, Nat.reduceEqDiff, Nat.reduceAdd, Int.reduceLT, Int.reduceLE, Int.reduceNeg, Int.reduceEq, Nat.reduceLT, Nat.reduceSub, Nat.reduceMul, Nat.reduceBEq, Nat.reduceLeDiff, Int.reduceBEq, Int.reduceBNe, Int.reduceToNat, ne_eq, implies_true, bA]
      refine callM (do_w hM p (by omega) hd) ?_
      rintro r ob2 ⟨ids, fp2, rfl, hM2, hF2, _⟩
      simp (config := {maxSteps := 4000000}) only [U_law17_ModelTwice, e1, reduceIte, reduceCtorEq, Nat.reduceEqDiff, Nat.reduceAdd, Int.reduceLT, Int.reduceLE, Int.reduceNeg, Int.reduceEq, Nat.reduceLT, Nat.reduceSub, Nat.reduceMul, Nat.reduceBEq, Nat.reduceLeDiff, Int.reduceBEq, Int.reduceBNe, Int.reduceToNat, ne_eq, implies_true, bA]
      exact ⟨(ob2, fp2, A', i + 1), rfl, ⟨hM2, hF2.at hr, hlt.1⟩, by show l.length - (i + 1) < l.length - i; omega⟩
    · have dp : decide ((p.d.length : Int) ≤ 1000) = false := by simpa using hps
      simp (config := {maxSteps := 4000000}) only [U_law17_ModelTwice, dp, e1, reduceIte, reduceCtorEq, Nat.reduceEqDiff, Nat.reduceAdd, Int.reduceLT, Int.reduceLE, Int.reduceNeg, Int.reduceEq, Nat.reduceLT, Nat.reduceSub, Nat.reduceMul, Nat.reduceBEq, Nat.reduceLeDiff, Int.reduceBEq, Int.reduceBNe, Int.reduceToNat, ne_eq, implies_true, bA]
      exact ⟨(ob, fp, A, i + 1), rfl, ⟨hM, hr, hlt.1⟩, by show l.length - (i + 1) < l.length - i; omega⟩
  · have hd : ((decide ((i : Int) < (l.length : Int))) = false) ∨ (decide ((i : Int) < (l.length : Int)) = true ∧ decide ((i : Int) < 40) = false) := by
      by_cases h : i < l.length
      · right; simp; omega
      · left; simp; omega
    obtain ⟨A1, e1, dd1, z1, u1, hd1⟩ : ∃ A1 e1 dd1 z1 u1, doV K A q = (A1, ⟨e1, dd1, z1, u1⟩) := ⟨_, _, _, _, _, rfl⟩
    obtain ⟨A2, e2, dd2, z2, u2, hd2⟩ : ∃ A2 e2 dd2 z2 u2, doV K A1 q = (A2, ⟨e2, dd2, z2, u2⟩) := ⟨_, _, _, _, _, rfl⟩
    have htw := do_twice hM.vol q
    rw [hd1] at htw
    simp only at htw
    rw [hd2] at htw
    simp only at htw
    have r0 := hr.1
    rcases hd with dl | ⟨dl, dl2⟩
    all_goals first | simp (config := {maxSteps := 4000000}) only [U_law17_ModelTwice, dl, dl2, r0, reduceIte, reduceCtorEq, Nat.reduceEqDiff, Nat.reduceAdd, Int.reduceLT, Int.reduceLE, Int.reduceNeg, Int.reduceEq, Nat.reduceLT, Nat.reduceSub, Nat.reduceMul, Nat.reduceBEq, Nat.reduceLeDiff, Int.reduceBEq, Int.reduceBNe, Int.reduceToNat, ne_eq, implies_true, bA] | simp (config := {maxSteps := 4000000}) only [U_law17_ModelTwice, dl, r0, reduceIte, reduceCtorEq, Nat.reduceEqDiff, Nat.reduceAdd, Int.reduceLT, Int.reduceLE, Int.reduceNeg, Int.reduceEq, Nat.reduceLT, Nat.reduceSub, Nat.reduceMul, Nat.reduceBEq, Nat.reduceLeDiff, Int.reduceBEq, Int.reduceBNe, Int.reduceToNat, ne_eq, implies_true, bA]
    all_goals refine callM (do_w hM q hq' hd1) ?_
    all_goals rintro r ob2 ⟨ids1, fp2, rfl, hM2, hF2, rfl | ⟨j1, n1, rfl⟩⟩
    all_goals
      have hr2 := hF2.at hr
      have hrA := fun l => apL hr2.1 l
      have hrn : 0 ∉ fp2 := hr2.2
      have han : ob2.length ∉ fp2 := hM2.out (Nat.le_refl _)
      simp (config := {maxSteps := 4000000}) only [U_law17_ModelTwice, ap0, st0, reduceIte, reduceCtorEq, Nat.reduceEqDiff, Nat.reduceAdd, Int.reduceLT, Int.reduceLE, Int.reduceNeg, Int.reduceEq, Nat.reduceLT, Nat.reduceSub, Nat.reduceMul, Nat.reduceBEq, Nat.reduceLeDiff, Int.reduceBEq, Int.reduceBNe, Int.reduceToNat, ne_eq, implies_true, bA]
      refine callM (copy_j hM2.app) ?_
      rintro r ob3 ⟨fp3, rfl, hC, hF3⟩
      obtain ⟨k1, k2⟩ := hF3.wide (Mod.lt hM2.app)
      have hM3 := hM2.app.keep k1
      have hr3 := (hF3.at ⟨hrA _, by simp⟩).1
      have ha3 := (hF3.at (j := ob2.length) ⟨by rw [ap0]; rfl, by simp⟩).1
      simp (config := {maxSteps := 4000000}) only [U_law17_ModelTwice, hr3, reduceIte, reduceCtorEq, Nat.reduceEqDiff, Nat.reduceAdd, Int.reduceLT, Int.reduceLE, Int.reduceNeg, Int.reduceEq, Nat.reduceLT, Nat.reduceSub, Nat.reduceMul, Nat.reduceBEq, Nat.reduceLeDiff, Int.reduceBEq, Int.reduceBNe, Int.reduceToNat, ne_eq, implies_true, bA]
      refine callM (do_w hM3 q hq' hd2) ?_
    all_goals rintro r ob4 ⟨ids2, fp4, rfl, hM4, hF4, rfl | ⟨j2, n2, rfl⟩⟩
    all_goals
      have hC4 := (hC.frame k2 hF4).1
      have hr4 := fun l => apL (hF4.at ⟨hr3, hrn⟩).1 l
      have ha4 := fun l => apL (hF4.at ⟨ha3, han⟩).1 l
      by_cases h13 : q.op = 1 ∨ q.op = 3
      · have hor := htw.1 h13
        by_cases z : e1 = 0
        · have dz : (e1 != 0) = false := by simp [z]
          have dz2 : (e2 != 0) = true := by
            rcases hor with h | h
            · exact absurd z h
            · simpa using h
          rcases h13 with c | c
          · have dc : (q.op == 1) = true := by simpa using c
            simp (config := {maxSteps := 4000000}) only [U_law17_ModelTwice, ap0, st0, hr4, ha4, dc, dz, dz2, reduceIte, reduceCtorEq, Nat.reduceEqDiff, Nat.reduceAdd, Int.reduceLT, Int.reduceLE, Int.reduceNeg, Int.reduceEq, Nat.reduceLT, Nat.reduceSub, Nat.reduceMul, Nat.reduceBEq, Nat.reduceLeDiff, Int.reduceBEq, Int.reduceBNe, Int.reduceToNat, ne_eq, implies_true, bA]
          · have dc : (q.op == 1) = false := by simp [c]
            have dc3 : (q.op == 3) = true := by simpa using c
            simp (config := {maxSteps := 4000000}) only [U_law17_ModelTwice, ap0, st0, hr4, ha4, dc, dc3, dz, dz2, reduceIte, reduceCtorEq, Nat.reduceEqDiff, Nat.reduceAdd, Int.reduceLT, Int.reduceLE, Int.reduceNeg, Int.reduceEq, Nat.reduceLT, Nat.reduceSub, Nat.reduceMul, Nat.reduceBEq, Nat.reduceLeDiff, Int.reduceBEq, Int.reduceBNe, Int.reduceToNat, ne_eq, implies_true, bA]
        · have dz : (e1 != 0) = true := by simpa using z
          rcases h13 with c | c
          · have dc : (q.op == 1) = true := by simpa using c
            simp (config := {maxSteps := 4000000}) only [U_law17_ModelTwice, ap0, st0, hr4, ha4, dc, dz, reduceIte, reduceCtorEq, Nat.reduceEqDiff, Nat.reduceAdd, Int.reduceLT, Int.reduceLE, Int.reduceNeg, Int.reduceEq, Nat.reduceLT, Nat.reduceSub, Nat.reduceMul, Nat.reduceBEq, Nat.reduceLeDiff, Int.reduceBEq, Int.reduceBNe, Int.reduceToNat, ne_eq, implies_true, bA]
          · have dc : (q.op == 1) = false := by simp [c]
            have dc3 : (q.op == 3) = true := by simpa using c
            simp (config := {maxSteps := 4000000}) only [U_law17_ModelTwice, ap0, st0, hr4, ha4, dc, dc3, dz, reduceIte, reduceCtorEq, Nat.reduceEqDiff, Nat.reduceAdd, Int.reduceLT, Int.reduceLE, Int.reduceNeg, Int.reduceEq, Nat.reduceLT, Nat.reduceSub, Nat.reduceMul, Nat.reduceBEq, Nat.reduceLeDiff, Int.reduceBEq, Int.reduceBNe, Int.reduceToNat, ne_eq, implies_true, bA]
      · obtain ⟨t1, t2, t3⟩ := htw.2 (fun c => h13 (.inl c)) (fun c => h13 (.inr c))
        have dc : (q.op == 1) = false := by simp; omega
        have dc3 : (q.op == 3) = false := by simp; omega
        have ds : decide (K = K ∧ A2 = A1) = true := by simp [t1]
        have hS := fun l => same_r (hM4.app (ex := l)) (hC4.app (ex := l))
        rw [ds] at hS
        simp only [List.length_append, List.length_cons, List.length_nil, Nat.zero_add] at hS
        rw [t2, t3]
        simp (config := {maxSteps := 4000000}) only [U_law17_ModelTwice, ap0, st0, hr4, ha4, dc, dc3, reduceIte, reduceCtorEq, Nat.reduceEqDiff, Nat.reduceAdd, Int.reduceLT, Int.reduceLE, Int.reduceNeg, Int.reduceEq, Nat.reduceLT, Nat.reduceSub, Nat.reduceMul, Nat.reduceBEq, Nat.reduceLeDiff, Int.reduceBEq, Int.reduceBNe, Int.reduceToNat, ne_eq, implies_true, bA]
        refine callR (hS _) ?_
        simp (config := {maxSteps := 4000000}) only [U_law17_ModelTwice, reduceIte, reduceCtorEq, Nat.reduceEqDiff, Nat.reduceAdd, Int.reduceLT, Int.reduceLE, Int.reduceNeg, Int.reduceEq, Nat.reduceLT, Nat.reduceSub, Nat.reduceMul, Nat.reduceBEq, Nat.reduceLeDiff, Int.reduceBEq, Int.reduceBNe, Int.reduceToNat, ne_eq, implies_true, bA]
end Go.Proofs.Ythjnfjgejdlbfaa.Aw
