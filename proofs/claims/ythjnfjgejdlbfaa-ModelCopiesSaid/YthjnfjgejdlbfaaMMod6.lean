/-
  The document's answers are the model's. Plain Lean.
-/
import Derived.Test.YthjnfjgejdlbfaaPMC
set_option linter.unusedSimpArgs false
set_option linter.unusedVariables false
namespace Go.Proofs.Ythjnfjgejdlbfaa.Aw
open Go.RowKit

def tellA (cap : Int) (A : List Spc) (q : Rq) : Ans :=
  if q.op = 7 then ⟨(readV A q.id q.fr q.n).2, (readV A q.id q.fr q.n).1, 0, 0⟩ else
  if q.op = 8 then ⟨0, [], 0, 0⟩ else
  if q.op = 9 then (match getG q.id A with
    | none => ⟨4, [], 0, 0⟩
    | some s => ⟨0, [], s.size, (s.S.length : Int)⟩) else
  if q.op = 10 then ⟨0, [], cap, usedV A⟩ else ⟨1, [], 0, 0⟩
def tellI (A : List Spc) (q : Rq) : List Int := if q.op = 10 then A.map (·.id) else []
def failA (x : List Spc × Int) : List Spc × Ans := (x.1, ⟨x.2, [], 0, 0⟩)
def doR (cap : Int) (A : List Spc) (q : Rq) : List Spc × Ans :=
  if q.op = 1 then failA (createV A q.id q.n) else
  if q.op = 2 then failA (resizeV A q.id q.n) else
  if q.op = 3 then failA (deleteV A q.id) else
  if q.op = 4 then failA (writeV cap A q.id q.fr q.d) else
  if q.op = 5 then failA (zeroV cap A q.id q.fr q.n) else
  if q.op = 6 then failA (trimV A q.id q.fr q.n) else (A, tellA cap A q)
theorem nz0 : ¬ ((0 : Int) ≠ 0) := by simp
theorem doR_eq (cap : Int) (A : List Spc) (q : Rq) : doR cap A q = doV cap A q := by
  by_cases c1 : q.op = 1
  · have e : doV cap A q = ((createV A q.id q.n).1, ⟨(createV A q.id q.n).2, [], 0, 0⟩) := by unfold doV; rw [if_neg (by omega), if_pos c1]
    rw [e]; unfold doR; rw [if_pos c1]; rfl
  by_cases c8 : q.op = 8
  · have e : doV cap A q = (A, ⟨0, [], 0, 0⟩) := by unfold doV; rw [if_neg (by omega), if_neg c1, if_pos c8]
    rw [e]; unfold doR; rw [if_neg c1, if_neg (by omega), if_neg (by omega), if_neg (by omega), if_neg (by omega), if_neg (by omega)]
    unfold tellA; rw [if_neg (by omega), if_pos c8]
  by_cases c10 : q.op = 10
  · have e : doV cap A q = (A, ⟨0, [], cap, usedV A⟩) := by unfold doV; rw [if_neg (by omega), if_neg c1, if_neg c8, if_pos c10]
    rw [e]; unfold doR; rw [if_neg c1, if_neg (by omega), if_neg (by omega), if_neg (by omega), if_neg (by omega), if_neg (by omega)]
    unfold tellA; rw [if_neg (by omega), if_neg c8, if_neg (by omega), if_pos c10]
  by_cases c0 : q.op < 1 ∨ 10 < q.op
  · have e : doV cap A q = (A, ⟨1, [], 0, 0⟩) := if_pos (by omega)
    rw [e]; unfold doR; rw [if_neg c1, if_neg (by omega), if_neg (by omega), if_neg (by omega), if_neg (by omega), if_neg (by omega)]
    unfold tellA; rw [if_neg (by omega), if_neg c8, if_neg (by omega), if_neg c10]
  by_cases c2 : q.op = 2
  · unfold doR; rw [if_neg c1, if_pos c2]
    by_cases hn : q.n < 0 ∨ 16777216 < q.n
    · have e : doV cap A q = (A, ⟨1, [], 0, 0⟩) := if_pos (by omega)
      rw [e]; unfold resizeV; rw [if_pos hn]; rfl
    · have e : doV cap A q = (match getG q.id A with
        | none => (A, ⟨4, [], 0, 0⟩)
        | some s => (putV A ⟨q.id, q.n, cutS s.S q.n 16777216⟩, ⟨0, [], 0, 0⟩)) := by
        unfold doV; rw [if_neg (by omega), if_neg c1, if_neg c8, if_neg c10]
        cases getG q.id A with
        | none => rfl
        | some s => simp only; rw [if_pos c2]
      rw [e]; unfold resizeV; rw [if_neg hn]
      cases getG q.id A <;> rfl
  by_cases c3 : q.op = 3
  · unfold doR; rw [if_neg c1, if_neg c2, if_pos c3]
    have e : doV cap A q = (match getG q.id A with
      | none => (A, ⟨4, [], 0, 0⟩)
      | some s => (delG q.id A, ⟨0, [], 0, 0⟩)) := by
      unfold doV; rw [if_neg (by omega), if_neg c1, if_neg c8, if_neg c10]
      cases getG q.id A with
      | none => rfl
      | some s => simp only; rw [if_neg c2, if_pos c3]
    rw [e]; unfold deleteV
    cases getG q.id A <;> rfl
  by_cases c9 : q.op = 9
  · unfold doR; rw [if_neg c1, if_neg c2, if_neg c3, if_neg (by omega), if_neg (by omega), if_neg (by omega)]
    have e : doV cap A q = (match getG q.id A with
      | none => (A, ⟨4, [], 0, 0⟩)
      | some s => (A, ⟨0, [], s.size, (s.S.length : Int)⟩)) := by
      unfold doV; rw [if_neg (by omega), if_neg c1, if_neg c8, if_neg c10]
      cases getG q.id A with
      | none => rfl
      | some s => simp only; rw [if_neg c2, if_neg c3, if_pos c9]
    rw [e]; unfold tellA; rw [if_neg (by omega), if_neg c8, if_pos c9]
    cases getG q.id A <;> rfl
  have e : doV cap A q = (match getG q.id A with
    | none => (A, ⟨4, [], 0, 0⟩)
    | some s => ((secV cap A s q).1, ⟨(secV cap A s q).2.1, (secV cap A s q).2.2, 0, 0⟩)) := by
    unfold doV; rw [if_neg (by omega), if_neg c1, if_neg c8, if_neg c10]
    cases getG q.id A with
    | none => rfl
    | some s => simp only; rw [if_neg c2, if_neg c3, if_neg c9]
  rw [e]
  by_cases c4 : q.op = 4
  · unfold doR; rw [if_neg c1, if_neg c2, if_neg c3, if_pos c4]
    have hw : wN q = ((q.d.length / 32 : Nat) : Int) := if_pos c4
    have hB : wB q = (decide (1 ≤ wN q) && (decide (q.d.length % 32 = 0) && decide (q.d.length / 32 ≤ 8))) := by
      have e8 : decide (((q.d.length / 32 : Nat) : Int) ≤ 8) = decide (q.d.length / 32 ≤ 8) := by rw [decide_eq_decide]; omega
      unfold wB; rw [hw, e8, c4]
      cases decide (q.d.length % 32 = 0) <;> cases decide (q.d.length / 32 ≤ 8) <;> simp
    unfold writeV
    cases hg : getG q.id A with
    | none => simp only [withinV, hg]; rfl
    | some s =>
      have hid : s.id = q.id := (getG_some hg).2
      simp only [withinV, hg]
      unfold secV
      rw [hw] at hB ⊢
      by_cases b1 : (decide (q.d.length % 32 = 0) && decide (q.d.length / 32 ≤ 8)) = false ∨ ((q.d.length / 32 : Nat) : Int) < 1
      · have hB2 : wB q = false := by
          rw [hB]
          rcases b1 with b | b
          · rw [b]; simp
          · have : ¬ (1 : Int) ≤ ((q.d.length / 32 : Nat) : Int) := by omega
            rw [decide_eq_false this, Bool.false_and]
        rw [if_pos b1, if_pos hB2]; rfl
      · have hB2 : ¬ wB q = false := by
          rw [hB]
          have a1 : (decide (q.d.length % 32 = 0) && decide (q.d.length / 32 ≤ 8)) = true := by
            cases h : (decide (q.d.length % 32 = 0) && decide (q.d.length / 32 ≤ 8)) with
            | true => rfl
            | false => exact absurd (.inl h) b1
          have a2 : decide ((1 : Int) ≤ ((q.d.length / 32 : Nat) : Int)) = true := by simp only [decide_eq_true_eq]; omega
          rw [a1, a2]; simp
        rw [if_neg b1, if_neg hB2]
        by_cases b2 : q.fr < 0 ∨ s.size < q.fr ∨ s.size - q.fr < ((q.d.length / 32 : Nat) : Int)
        · rw [if_pos b2, if_pos b2]; rfl
        · have n7 : ¬ q.op = 7 := by omega
          have n6 : ¬ q.op = 6 := by omega
          rw [if_neg b2, if_neg b2, if_neg nz0, if_neg n7, if_neg n6]
          simp only [if_pos c4, Int.toNat_natCast, hid]
          rfl
  by_cases c5 : q.op = 5
  · unfold doR; rw [if_neg c1, if_neg c2, if_neg c3, if_neg c4, if_pos c5]
    have hw : wN q = q.n := if_neg c4
    have hB : wB q = decide (1 ≤ q.n) := by unfold wB; rw [hw]; simp [c4, c5]
    unfold zeroV
    cases hg : getG q.id A with
    | none => simp only [withinV, hg]; rfl
    | some s =>
      have hid : s.id = q.id := (getG_some hg).2
      simp only [withinV, hg]
      unfold secV
      rw [hw]
      by_cases b1 : q.n < 1
      · have hB2 : wB q = false := by rw [hB]; simp; omega
        have i1 : (true = false ∨ q.n < 1) := .inr b1
        simp only [i1, if_true, hB2]
        rfl
      · have hB2 : ¬ wB q = false := by rw [hB]; simp; omega
        have i1 : ¬ (true = false ∨ q.n < 1) := by simp; omega
        rw [if_neg hB2]
        simp only [i1, if_false]
        by_cases b2 : q.fr < 0 ∨ s.size < q.fr ∨ s.size - q.fr < q.n
        · rw [if_pos b2, if_pos b2]; rfl
        · have n7 : ¬ q.op = 7 := by omega
          have n6 : ¬ q.op = 6 := by omega
          rw [if_neg b2, if_neg b2, if_neg nz0, if_neg n7, if_neg n6]
          simp only [if_neg c4, hid]
          rfl
  by_cases c6 : q.op = 6
  · unfold doR; rw [if_neg c1, if_neg c2, if_neg c3, if_neg c4, if_neg c5, if_pos c6]
    have hw : wN q = q.n := if_neg c4
    have hB : wB q = decide (1 ≤ q.n) := by unfold wB; rw [hw]; simp [c4, c6]
    unfold trimV
    cases hg : getG q.id A with
    | none => simp only [withinV, hg]; rfl
    | some s =>
      have hid : s.id = q.id := (getG_some hg).2
      simp only [withinV, hg]
      unfold secV
      rw [hw]
      by_cases b1 : q.n < 1
      · have hB2 : wB q = false := by rw [hB]; simp; omega
        have i1 : (true = false ∨ q.n < 1) := .inr b1
        simp only [i1, if_true, hB2]
        rfl
      · have hB2 : ¬ wB q = false := by rw [hB]; simp; omega
        have i1 : ¬ (true = false ∨ q.n < 1) := by simp; omega
        rw [if_neg hB2]
        simp only [i1, if_false]
        by_cases b2 : q.fr < 0 ∨ s.size < q.fr ∨ s.size - q.fr < q.n
        · rw [if_pos b2, if_pos b2]; rfl
        · have n7 : ¬ q.op = 7 := by omega
          rw [if_neg b2, if_neg b2, if_neg nz0, if_neg n7, if_pos c6, hid]
          rfl
  have c7 : q.op = 7 := by omega
  unfold doR; rw [if_neg c1, if_neg c2, if_neg c3, if_neg c4, if_neg c5, if_neg c6]
  unfold tellA; rw [if_pos c7]
  have hw : wN q = q.n := if_neg c4
  have hB : wB q = (decide (1 ≤ q.n) && decide (q.n ≤ 8)) := by unfold wB; rw [hw]; simp [c7]
  unfold readV
  cases hg : getG q.id A with
  | none => simp only [withinV, hg]; rfl
  | some s =>
    simp only [withinV, hg]
    unfold secV
    rw [hw]
    by_cases b1 : decide (q.n ≤ 8) = false ∨ q.n < 1
    · have hB2 : wB q = false := by
        rw [hB]
        rcases b1 with b | b
        · rw [b]; simp
        · have : ¬ 1 ≤ q.n := by omega
          simp [this]
      rw [if_pos b1, if_pos hB2]; rfl
    · have hB2 : ¬ wB q = false := by
        rw [hB]
        have h1 : q.n ≤ 8 := by
          rcases Int.lt_or_le 8 q.n with h | h
          · exact absurd (.inl (by simp; omega)) b1
          · exact h
        have h2 : 1 ≤ q.n := by
          rcases Int.lt_or_le q.n 1 with h | h
          · exact absurd (.inr h) b1
          · exact h
        simp [h1, h2]
      rw [if_neg b1, if_neg hB2]
      by_cases b2 : q.fr < 0 ∨ s.size < q.fr ∨ s.size - q.fr < q.n
      · rw [if_pos b2, if_pos b2]; rfl
      · rw [if_neg b2, if_neg b2, if_neg nz0, if_pos c7]
end Go.Proofs.Ythjnfjgejdlbfaa.Aw
