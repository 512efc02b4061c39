/-
  The model: a new namespace; sectors that get bytes.
-/
import Derived.Test.YthjnfjgejdlbfaaMMod3
import Derived.Test.YthjnfjgejdlbfaaPRepM
set_option linter.unusedSimpArgs false
set_option linter.unusedVariables false
namespace Go.Proofs.Ythjnfjgejdlbfaa.Aw
open Go.RowKit

theorem sy1 (ob : List AObj) (m : Nat) (x : AObj) (l : List AObj) : (ob.set m x ++ l)[ob.length + 1]? = l[1]? := by have := ap1 (ob.set m x) l; rwa [List.length_set] at this
theorem sy2 (ob : List AObj) (m : Nat) (x : AObj) (l : List AObj) : (ob.set m x ++ l)[ob.length + 2]? = l[2]? := by have := ap2 (ob.set m x) l; rwa [List.length_set] at this
theorem sy3 (ob : List AObj) (m : Nat) (x : AObj) (l : List AObj) : (ob.set m x ++ l)[ob.length + 3]? = l[3]? := by have := ap3 (ob.set m x) l; rwa [List.length_set] at this
theorem sz1 (ob : List AObj) (m : Nat) (x y : AObj) (l : List AObj) : (ob.set m x ++ l).set (ob.length + 1) y = ob.set m x ++ l.set 1 y := by have := st1 (ob.set m x) l y; rwa [List.length_set] at this
theorem sz2 (ob : List AObj) (m : Nat) (x y : AObj) (l : List AObj) : (ob.set m x ++ l).set (ob.length + 2) y = ob.set m x ++ l.set 2 y := by have := st2 (ob.set m x) l y; rwa [List.length_set] at this
theorem sA {ob : List AObj} {m : Nat} (h : m < ob.length) (x : AObj) (l : List AObj) : (ob ++ l).set m x = ob.set m x ++ l := List.set_append_left _ _ h

/-- What a call does to a model. -/
def Mut (ob : List AObj) (fp : List Nat) (b : Nat) (cap : Int) (A' : List Spc) (res : PV) (r : PV) (ob' : List AObj) : Prop := r = res ∧ ∃ fp', Mod ob' fp' b cap A' ∧ Frame ob fp ob' fp'
theorem Mut.ext {ob ex b m ck E cap A res} (h : ModAt ob b m ck E cap A) : Mut ob (fpM b m E) b cap A res res (ob ++ ex) := ⟨rfl, _, Mod.app ⟨m, ck, E, h, rfl⟩, Frame.app _ _ _⟩
theorem Mut.same {ob b m ck E cap A res} (h : ModAt ob b m ck E cap A) : Mut ob (fpM b m E) b cap A res res ob := ⟨rfl, _, ⟨m, ck, E, h, rfl⟩, Frame.refl _ _⟩

theorem create_i {ob b m ck E cap A} (h : ModAt ob b m ck E cap A) (q : Rq) : ICall Try.prog 27 [.ref b 0, pQ q] ob
    (Mut ob (fpM b m E) b cap (createV A q.id q.n).1 (failP (createV A q.id q.n).2)) := by
  refine icall_dr Try.func27 comp_model_Model_create ?_
  have hbA := fun l => apL h.hb l
  have hmA := fun l => apL h.hm l
  have hlen := h.len
  have hlm := lt_of_get h.hm
  have hlb := lt_of_get h.hb
  have hbm : b ≠ m := fun c => by have := h.hb; rw [c, h.hm] at this; cases this
  have hsA := sA hlm
  have hok := h.vol.create q.id q.n
  unfold createV at hok ⊢
  by_cases c1 : q.id < 1
  · have d1 : decide (q.id < 1) = true := by simpa using c1
    rw [if_pos (.inl c1)]
    simp (config := {maxSteps := 4000000}) only [U_model_Model_create, d1, ap0, ap1, st1, reduceIte, reduceCtorEq, Nat.reduceEqDiff, Nat.reduceAdd, Int.reduceLT, Int.reduceLE, Int.reduceNeg, Int.reduceEq, Nat.reduceLT, Nat.reduceSub, Nat.reduceMul, Nat.reduceBEq, Nat.reduceLeDiff, Int.reduceBEq, Int.reduceBNe, Int.reduceToNat, ne_eq, implies_true, bA]
    refine callI (fail_spec 1) ?_
    simp (config := {maxSteps := 4000000}) only [U_model_Model_create, ap0, ap1, st1, reduceIte, reduceCtorEq, Nat.reduceEqDiff, Nat.reduceAdd, Int.reduceLT, Int.reduceLE, Int.reduceNeg, Int.reduceEq, Nat.reduceLT, Nat.reduceSub, Nat.reduceMul, Nat.reduceBEq, Nat.reduceLeDiff, Int.reduceBEq, Int.reduceBNe, Int.reduceToNat, ne_eq, implies_true, bA]
    exact ⟨_, rfl, Mut.ext h⟩
  · have d1 : decide (q.id < 1) = false := by simpa using c1
    by_cases c2 : 65535 < q.id
    · have d2 : decide (65535 < q.id) = true := by simpa using c2
      rw [if_pos (.inr (.inl c2))]
      simp (config := {maxSteps := 4000000}) only [U_model_Model_create, d1, d2, ap0, ap1, st1, reduceIte, reduceCtorEq, Nat.reduceEqDiff, Nat.reduceAdd, Int.reduceLT, Int.reduceLE, Int.reduceNeg, Int.reduceEq, Nat.reduceLT, Nat.reduceSub, Nat.reduceMul, Nat.reduceBEq, Nat.reduceLeDiff, Int.reduceBEq, Int.reduceBNe, Int.reduceToNat, ne_eq, implies_true, bA]
      refine callI (fail_spec 1) ?_
      simp (config := {maxSteps := 4000000}) only [U_model_Model_create, ap0, ap1, st1, reduceIte, reduceCtorEq, Nat.reduceEqDiff, Nat.reduceAdd, Int.reduceLT, Int.reduceLE, Int.reduceNeg, Int.reduceEq, Nat.reduceLT, Nat.reduceSub, Nat.reduceMul, Nat.reduceBEq, Nat.reduceLeDiff, Int.reduceBEq, Int.reduceBNe, Int.reduceToNat, ne_eq, implies_true, bA]
      exact ⟨_, rfl, Mut.ext h⟩
    · have d2 : decide (65535 < q.id) = false := by simpa using c2
      simp (config := {maxSteps := 4000000}) only [U_model_Model_create, d1, d2, ap0, ap1, reduceIte, reduceCtorEq, Nat.reduceEqDiff, Nat.reduceAdd, Int.reduceLT, Int.reduceLE, Int.reduceNeg, Int.reduceEq, Nat.reduceLT, Nat.reduceSub, Nat.reduceMul, Nat.reduceBEq, Nat.reduceLeDiff, Int.reduceBEq, Int.reduceBNe, Int.reduceToNat, ne_eq, implies_true, bA]
      by_cases c3 : q.n < 0 ∨ 16777216 < q.n
      · refine callI (sized_no c3) ?_
        rw [if_pos (.inr (.inr c3))]
        simp (config := {maxSteps := 4000000}) only [U_model_Model_create, ap0, ap1, st1, reduceIte, reduceCtorEq, Nat.reduceEqDiff, Nat.reduceAdd, Int.reduceLT, Int.reduceLE, Int.reduceNeg, Int.reduceEq, Nat.reduceLT, Nat.reduceSub, Nat.reduceMul, Nat.reduceBEq, Nat.reduceLeDiff, Int.reduceBEq, Int.reduceBNe, Int.reduceToNat, ne_eq, implies_true, bA]
        refine callI (fail_spec 1) ?_
        simp (config := {maxSteps := 4000000}) only [U_model_Model_create, ap0, ap1, st1, reduceIte, reduceCtorEq, Nat.reduceEqDiff, Nat.reduceAdd, Int.reduceLT, Int.reduceLE, Int.reduceNeg, Int.reduceEq, Nat.reduceLT, Nat.reduceSub, Nat.reduceMul, Nat.reduceBEq, Nat.reduceLeDiff, Int.reduceBEq, Int.reduceBNe, Int.reduceToNat, ne_eq, implies_true, bA]
        exact ⟨_, rfl, Mut.ext h⟩
      · refine callI (sized_yes c3) ?_
        have cn : ¬ (q.id < 1 ∨ 65535 < q.id ∨ q.n < 0 ∨ 16777216 < q.n) := by omega
        rw [if_neg cn] at hok ⊢
        cases hg : getG q.id A with
        | some a =>
          obtain ⟨E1, e, E2, rfl, rfl, hk⟩ := h.get hg
          simp (config := {maxSteps := 4000000}) only [U_model_Model_create, ap0, ap1, st1, hbA, hmA, hk, reduceIte, reduceCtorEq, Nat.reduceEqDiff, Nat.reduceAdd, Int.reduceLT, Int.reduceLE, Int.reduceNeg, Int.reduceEq, Nat.reduceLT, Nat.reduceSub, Nat.reduceMul, Nat.reduceBEq, Nat.reduceLeDiff, Int.reduceBEq, Int.reduceBNe, Int.reduceToNat, ne_eq, implies_true, bA]
          refine callI (fail_spec 7) ?_
          simp (config := {maxSteps := 4000000}) only [U_model_Model_create, ap0, ap1, st1, reduceIte, reduceCtorEq, Nat.reduceEqDiff, Nat.reduceAdd, Int.reduceLT, Int.reduceLE, Int.reduceNeg, Int.reduceEq, Nat.reduceLT, Nat.reduceSub, Nat.reduceMul, Nat.reduceBEq, Nat.reduceLeDiff, Int.reduceBEq, Int.reduceBNe, Int.reduceToNat, ne_eq, implies_true, bA]
          exact ⟨_, rfl, Mut.ext h⟩
        | none =>
          have hk := h.getN hg
          rw [hg] at hok
          by_cases c4 : 8 ≤ A.length
          · have d4 : decide ((8 : Int) ≤ (E.length : Int)) = true := by simp; omega
            simp only [c4, if_true]
            simp (config := {maxSteps := 4000000}) only [U_model_Model_create, ap0, ap1, st1, hbA, hmA, hk, d4, reduceIte, reduceCtorEq, Nat.reduceEqDiff, Nat.reduceAdd, Int.reduceLT, Int.reduceLE, Int.reduceNeg, Int.reduceEq, Nat.reduceLT, Nat.reduceSub, Nat.reduceMul, Nat.reduceBEq, Nat.reduceLeDiff, Int.reduceBEq, Int.reduceBNe, Int.reduceToNat, ne_eq, implies_true, bA]
            refine callI (fail_spec 70) ?_
            simp (config := {maxSteps := 4000000}) only [U_model_Model_create, ap0, ap1, st1, reduceIte, reduceCtorEq, Nat.reduceEqDiff, Nat.reduceAdd, Int.reduceLT, Int.reduceLE, Int.reduceNeg, Int.reduceEq, Nat.reduceLT, Nat.reduceSub, Nat.reduceMul, Nat.reduceBEq, Nat.reduceLeDiff, Int.reduceBEq, Int.reduceBNe, Int.reduceToNat, ne_eq, implies_true, bA]
            exact ⟨_, rfl, Mut.ext h⟩
          · have d4 : decide ((8 : Int) ≤ (E.length : Int)) = false := by simp; omega
            simp only [c4, if_false] at hok ⊢
            have n0 : (ob.length == ob.length + 2) = false := by simp
            have n1 : (b == ob.length + 2) = false := by simp; omega
            simp (config := {maxSteps := 4000000}) only [U_model_Model_create, n0, n1, ap0, ap1, ap2, st1, st2, hbA, hmA, hk, d4, hsA, sy1, sz1, reduceIte, reduceCtorEq, Nat.reduceEqDiff, Nat.reduceAdd, Int.reduceLT, Int.reduceLE, Int.reduceNeg, Int.reduceEq, Nat.reduceLT, Nat.reduceSub, Nat.reduceMul, Nat.reduceBEq, Nat.reduceLeDiff, Int.reduceBEq, Int.reduceBNe, Int.reduceToNat, ne_eq, implies_true, bA]
            refine ⟨_, rfl, rfl, fpM b m (E ++ [⟨ck, ⟨q.id, q.n, []⟩, ob.length + 2, ob.length + 3, 0, []⟩]), ⟨m, ck + 1, _, h.add hg (by omega) (by omega) ?_ ?_ ?_ ?_ hok, rfl⟩, ?_⟩
            · rw [sy2]; rfl
            · rw [sy3]; rfl
            · rw [sx1 hlm]
            · intro i hi hil; rw [sx4 hi hil]
            · refine ⟨by simp, fun i hi hn => ?_, fun i hi => ?_⟩
              · rw [sx4 (fun c => hn (mem_fpM.2 (.inr (.inl c)))) hi]
              · rcases mem_fpM.1 hi with rfl | rfl | ⟨e, he, rfl⟩ | ⟨e, he, rfl⟩
                · exact .inl (mem_fpM.2 (.inl rfl))
                · exact .inl (mem_fpM.2 (.inr (.inl rfl)))
                · rcases List.mem_append.1 he with he | he
                  · exact .inl (mem_fpM.2 (.inr (.inr (.inl ⟨e, he, rfl⟩))))
                  · simp only [List.mem_singleton] at he; subst he; right; show ob.length ≤ ob.length + 2; omega
                · rcases List.mem_append.1 he with he | he
                  · exact .inl (mem_fpM.2 (.inr (.inr (.inr ⟨e, he, rfl⟩))))
                  · simp only [List.mem_singleton] at he; subst he; right; show ob.length ≤ ob.length + 3; omega
end Go.Proofs.Ythjnfjgejdlbfaa.Aw
