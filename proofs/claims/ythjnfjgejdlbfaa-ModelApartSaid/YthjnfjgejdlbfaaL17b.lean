/-
  ModelLast: what is read is what was written last.
-/
import Derived.Test.YthjnfjgejdlbfaaL17
set_option linter.unusedSimpArgs false
set_option linter.unusedVariables false
namespace Go.Proofs.Ythjnfjgejdlbfaa.Aw
open Go.RowKit

def tx (x : UInt8) : List UInt8 := List.replicate 32 x
def lastS (a : Int) : Option (List UInt8) → List Sc
  | none => []
  | some d => [⟨a, d⟩]
def lastV (a : Int) (o : Option (List UInt8)) : List Spc := [⟨7, 20, lastS a o⟩]
theorem last_g {a : Int} : doV 3 [⟨7, a, []⟩] ⟨2, 7, 0, 20, []⟩ = (lastV a none, ⟨0, [], 0, 0⟩) := by
  simp [doV, lastV, lastS, getG, key_spc, key_sc, cutS, putV, delG, insG]
section
variable {a : Int} (h0 : 0 ≤ a) (h1 : a < 20)
include h0 h1
theorem last_w (o : Option (List UInt8)) (x : UInt8) : doV 3 (lastV a o) ⟨4, 7, a, 0, tx x⟩ = (lastV a (some (tx x)), ⟨0, [], 0, 0⟩) := by
  have a1 : ¬ a < 0 := by omega
  have a2 : ¬ 20 < a := by omega
  have a3 : ¬ 20 - a < 1 := by omega
  have a4 : ¬ (a + 1 ≤ a) := by omega
  have a5 : a < a + 1 := by omega
  cases o <;> simp [tx, List.filter_cons, a4, a5, doV, lastV, lastS, getG, key_spc, key_sc, secV, wB, wN, layV, usedV, inS, cutS, layS, scsFrom, pieces, putV, delG, insG, a1, a2, a3]
theorem last_t (o : Option (List UInt8)) : doV 3 (lastV a o) ⟨6, 7, a, 1, []⟩ = (lastV a none, ⟨0, [], 0, 0⟩) := by
  have a1 : ¬ a < 0 := by omega
  have a2 : ¬ 20 < a := by omega
  have a3 : ¬ 20 - a < 1 := by omega
  have a4 : ¬ (a + 1 ≤ a) := by omega
  have a5 : a < a + 1 := by omega
  cases o <;> simp [List.filter_cons, a4, a5, doV, lastV, lastS, getG, key_spc, key_sc, secV, wB, wN, cutS, putV, delG, insG, a1, a2, a3]
theorem last_z (o : Option (List UInt8)) : doV 3 (lastV a o) ⟨5, 7, a, 1, []⟩ = (lastV a (some blankB), ⟨0, [], 0, 0⟩) := by
  have a1 : ¬ a < 0 := by omega
  have a2 : ¬ 20 < a := by omega
  have a3 : ¬ 20 - a < 1 := by omega
  have a4 : ¬ (a + 1 ≤ a) := by omega
  have a5 : a < a + 1 := by omega
  cases o <;> simp [List.filter_cons, a4, a5, doV, lastV, lastS, getG, key_spc, key_sc, secV, wB, wN, layV, usedV, inS, cutS, layS, scsFrom, putV, delG, insG, a1, a2, a3]
theorem last_r (o : Option (List UInt8)) : doV 3 (lastV a o) ⟨2, 7, 0, a, []⟩ = ([⟨7, a, []⟩], ⟨0, [], 0, 0⟩) := by
  have a1 : ¬ a < 0 := by omega
  have a2 : ¬ 16777216 < a := by omega
  have a3 : ¬ 16777216 ≤ a := by omega
  have a4 : ¬ (a + 1 ≤ a) := by omega
  have a5 : a < a + 1 := by omega
  cases o <;> simp [List.filter_cons, a4, a5, doV, lastV, lastS, getG, key_spc, key_sc, cutS, putV, delG, insG, a1, a2, a3]
theorem last_d (o : Option (List UInt8)) : doV 3 (lastV a o) ⟨7, 7, a, 1, []⟩ = (lastV a o, ⟨0, o.getD blankB, 0, 0⟩) := by
  have a1 : ¬ a < 0 := by omega
  have a2 : ¬ 20 < a := by omega
  have a3 : ¬ 20 - a < 1 := by omega
  have a4 : ¬ (a + 1 ≤ a) := by omega
  have a5 : a < a + 1 := by omega
  cases o <;> simp [List.filter_cons, a4, a5, doV, lastV, lastS, getG, key_spc, key_sc, secV, wB, wN, readS, ofSc, a1, a2, a3]
end

set_option maxHeartbeats 1000000 in
theorem last_law (a0 : Int) (l : List UInt8) : PCall Try.prog 4 [.int .i64 a0, .slc (byteRows l)] (.bool true) := by
  refine pcall_dr Try.func4 comp_law17_ModelLast ?_
  have b1 := Int.tmod_lt_of_pos a0 (show (0 : Int) < 20 by omega)
  have b2 := Int.lt_tmod_of_pos a0 (show (0 : Int) < 20 by omega)
  have w1 : IntKind.i64.wrap (a0.tmod 20 + 20) = a0.tmod 20 + 20 := wrapI (by omega) (by omega)
  have h0 := Int.tmod_nonneg (20 : Int) (show (0 : Int) ≤ a0.tmod 20 + 20 by omega)
  have h1 := Int.tmod_lt_of_pos (a0.tmod 20 + 20) (show (0 : Int) < 20 by omega)
  obtain ⟨a, ha⟩ : ∃ a, (a0.tmod 20 + 20).tmod 20 = a := ⟨_, rfl⟩
  rw [ha] at h0 h1
  have t0 : PCall Try.prog 14 [.int .i64 1, .int .u8 0] (.str blankB) := text_spec 1 0 (by omega) (b := 0) rfl
  simp (config := {maxSteps := 4000000}) only [U_law17_ModelLast, reduceIte, reduceCtorEq, Nat.reduceEqDiff, Nat.reduceAdd, Int.reduceLT, Int.reduceLE, Int.reduceNeg, Int.reduceEq, Nat.reduceLT, Nat.reduceSub, Nat.reduceMul, Nat.reduceBEq, Nat.reduceLeDiff, Int.reduceBEq, Int.reduceBNe, Int.reduceToNat, ne_eq, implies_true, bA]
  refine callM (new_i [] 3 (by omega)) ?_
  rintro r ob1 ⟨fp1, rfl, hM, hF⟩
  replace hM : Mod ob1 fp1 1 3 [] := hM
  simp (config := {maxSteps := 4000000}) only [U_law17_ModelLast, w1, ha, reduceIte, reduceCtorEq, Nat.reduceEqDiff, Nat.reduceAdd, Int.reduceLT, Int.reduceLE, Int.reduceNeg, Int.reduceEq, Nat.reduceLT, Nat.reduceSub, Nat.reduceMul, Nat.reduceBEq, Nat.reduceLeDiff, Int.reduceBEq, Int.reduceBNe, Int.reduceToNat, ne_eq, implies_true, bA]
  refine callI awake_spec ?_
  simp (config := {maxSteps := 4000000}) only [U_law17_ModelLast, reduceIte, reduceCtorEq, Nat.reduceEqDiff, Nat.reduceAdd, Int.reduceLT, Int.reduceLE, Int.reduceNeg, Int.reduceEq, Nat.reduceLT, Nat.reduceSub, Nat.reduceMul, Nat.reduceBEq, Nat.reduceLeDiff, Int.reduceBEq, Int.reduceBNe, Int.reduceToNat, ne_eq, implies_true, bA]
  refine callM (do_k hM ⟨1, 7, 0, 20, []⟩ (by simp) (A' := lastV a none) (e := 0) (d := []) (sz := 0) (us := 0) (by kernel_rfl) (by simp)) ?_
  rintro r ob2 ⟨rfl, fp2, hM2, hF2⟩
  clear hM hF
  simp (config := {maxSteps := 4000000}) only [U_law17_ModelLast, reduceIte, reduceCtorEq, Nat.reduceEqDiff, Nat.reduceAdd, Int.reduceLT, Int.reduceLE, Int.reduceNeg, Int.reduceEq, Nat.reduceLT, Nat.reduceSub, Nat.reduceMul, Nat.reduceBEq, Nat.reduceLeDiff, Int.reduceBEq, Int.reduceBNe, Int.reduceToNat, ne_eq, implies_true, bA]
  refine callI t0 ?_
  simp (config := {maxSteps := 4000000}) only [U_law17_ModelLast, reduceIte, reduceCtorEq, Nat.reduceEqDiff, Nat.reduceAdd, Int.reduceLT, Int.reduceLE, Int.reduceNeg, Int.reduceEq, Nat.reduceLT, Nat.reduceSub, Nat.reduceMul, Nat.reduceBEq, Nat.reduceLeDiff, Int.reduceBEq, Int.reduceBNe, Int.reduceToNat, ne_eq, implies_true, bA]
  refine loopF (fun x : List AObj × List Nat × Nat × Option (List UInt8) => ⟨ofL [(0, .int .i64 a), (1, .slc (byteRows l)), (5, .ref 1 0), (7, .int .i64 (x.2.2.1 : Int))], x.1⟩)
    (fun x => Mod x.1 x.2.1 1 3 (lastV a x.2.2.2) ∧ x.2.2.1 ≤ l.length) (fun x => l.length - x.2.2.1) (ob2, fp2, 0, none) ?_ ⟨hM2, Nat.zero_le _⟩ ?_
  · simp (config := {maxSteps := 4000000}) only [U_law17_ModelLast, reduceIte, reduceCtorEq, Nat.reduceEqDiff, Nat.reduceAdd, Int.reduceLT, Int.reduceLE, Int.reduceNeg, Int.reduceEq, Nat.reduceLT, Nat.reduceSub, Nat.reduceMul, Nat.reduceBEq, Nat.reduceLeDiff, Int.reduceBEq, Int.reduceBNe, Int.reduceToNat, ne_eq, implies_true, bA]
    all_goals rfl
  clear hM2 hF2
  rintro ⟨ob, fp, i, o⟩ ⟨hM, hi⟩
  simp only at hM hi
  have hbl : ((byteRows l).length : Int) = (l.length : Int) := by simp [byteRows]
  by_cases hlt : i < l.length
  · have d : decide ((i : Int) < (l.length : Int)) = true := by simpa using hlt
    by_cases h40 : i < 40
    · have d40 : decide ((i : Int) < 40) = true := by simp; omega
      have e1 : IntKind.i64.wrap ((i : Int) + 1) = ((i + 1 : Nat) : Int) := by rw [wrapI (by omega) (by omega)]; omega
      have isl := fun ob fb => islV_map (ob := ob) (fb := fb) (k := .i64) (g := fun b : UInt8 => [PV.int .u8 (b.toNat : Int)]) (l := l) (e := 1) hlt rfl
      obtain ⟨x, hx⟩ : ∃ x, l[i] = x := ⟨_, rfl⟩
      rw [hx] at isl
      have hxl : x.toNat < 256 := x.toNat_lt
      obtain ⟨n, hn⟩ : ∃ n : Nat, x.toNat = n := ⟨_, rfl⟩
      have tX : PCall Try.prog 14 [.int .i64 1, .int .u8 (n : Int)] (.str (tx x)) := text_spec 1 x (by omega) (b := (n : Int)) (by rw [hn])
      rw [hn] at isl hxl
      clear hn
      simp (config := {maxSteps := 4000000}) only [U_law17_ModelLast, d, d40, hbl, isl, byteRows, reduceIte, reduceCtorEq, Nat.reduceEqDiff, Nat.reduceAdd, Int.reduceLT, Int.reduceLE, Int.reduceNeg, Int.reduceEq, Nat.reduceLT, Nat.reduceSub, Nat.reduceMul, Nat.reduceBEq, Nat.reduceLeDiff, Int.reduceBEq, Int.reduceBNe, Int.reduceToNat, ne_eq, implies_true, bA]
      refine callI tX ?_
      by_cases c0 : n = 0
      · have d0 : ((n : Int) == 0) = true := by simp; omega
        have d2 : ((n : Int) == 2) = false := by simp; omega
        have dg : decide (2 < (n : Int)) = false := by simp; omega
        simp (config := {maxSteps := 4000000}) only [U_law17_ModelLast, ap0, st0, d0, d2, reduceIte, reduceCtorEq, Nat.reduceEqDiff, Nat.reduceAdd, Int.reduceLT, Int.reduceLE, Int.reduceNeg, Int.reduceEq, Nat.reduceLT, Nat.reduceSub, Nat.reduceMul, Nat.reduceBEq, Nat.reduceLeDiff, Int.reduceBEq, Int.reduceBNe, Int.reduceToNat, ne_eq, implies_true, bA]
        refine callM (do_k hM.app ⟨6, 7, a, 1, []⟩ (by simp) (last_t h0 h1 o) (by simp)) ?_
        rintro r ob2 ⟨rfl, fp2, hM2, hF2⟩
        simp (config := {maxSteps := 4000000}) only [U_law17_ModelLast, d0, d2, reduceIte, reduceCtorEq, Nat.reduceEqDiff, Nat.reduceAdd, Int.reduceLT, Int.reduceLE, Int.reduceNeg, Int.reduceEq, Nat.reduceLT, Nat.reduceSub, Nat.reduceMul, Nat.reduceBEq, Nat.reduceLeDiff, Int.reduceBEq, Int.reduceBNe, Int.reduceToNat, ne_eq, implies_true, bA]
        refine callI t0 ?_
        simp (config := {maxSteps := 4000000}) only [U_law17_ModelLast, dg, reduceIte, reduceCtorEq, Nat.reduceEqDiff, Nat.reduceAdd, Int.reduceLT, Int.reduceLE, Int.reduceNeg, Int.reduceEq, Nat.reduceLT, Nat.reduceSub, Nat.reduceMul, Nat.reduceBEq, Nat.reduceLeDiff, Int.reduceBEq, Int.reduceBNe, Int.reduceToNat, ne_eq, implies_true, bA]
        refine callM (do_k hM2 ⟨7, 7, a, 1, []⟩ (by simp) (last_d h0 h1 none) (by simp)) ?_
        rintro r ob9 ⟨rfl, fp9, hM9, hF9⟩
        simp (config := {maxSteps := 4000000}) only [U_law17_ModelLast, ap0, st0, Option.getD_some, Option.getD_none, e1, reduceIte, reduceCtorEq, Nat.reduceEqDiff, Nat.reduceAdd, Int.reduceLT, Int.reduceLE, Int.reduceNeg, Int.reduceEq, Nat.reduceLT, Nat.reduceSub, Nat.reduceMul, Nat.reduceBEq, Nat.reduceLeDiff, Int.reduceBEq, Int.reduceBNe, Int.reduceToNat, ne_eq, implies_true, bA]
        exact ⟨(ob9 ++ [_], fp9, i + 1, none), rfl, ⟨hM9.app, hlt⟩, by show l.length - (i + 1) < l.length - i; omega⟩
      by_cases c1 : n = 1
      · have d0 : ((n : Int) == 0) = false := by simp; omega
        have d1 : ((n : Int) == 1) = true := by simp; omega
        have d2 : ((n : Int) == 2) = false := by simp; omega
        have dg : decide (2 < (n : Int)) = false := by simp; omega
        simp (config := {maxSteps := 4000000}) only [U_law17_ModelLast, ap0, st0, d0, d1, d2, reduceIte, reduceCtorEq, Nat.reduceEqDiff, Nat.reduceAdd, Int.reduceLT, Int.reduceLE, Int.reduceNeg, Int.reduceEq, Nat.reduceLT, Nat.reduceSub, Nat.reduceMul, Nat.reduceBEq, Nat.reduceLeDiff, Int.reduceBEq, Int.reduceBNe, Int.reduceToNat, ne_eq, implies_true, bA]
        refine callM (do_k hM.app ⟨5, 7, a, 1, []⟩ (by simp) (last_z h0 h1 o) (by simp)) ?_
        rintro r ob2 ⟨rfl, fp2, hM2, hF2⟩
        simp (config := {maxSteps := 4000000}) only [U_law17_ModelLast, d0, d1, d2, reduceIte, reduceCtorEq, Nat.reduceEqDiff, Nat.reduceAdd, Int.reduceLT, Int.reduceLE, Int.reduceNeg, Int.reduceEq, Nat.reduceLT, Nat.reduceSub, Nat.reduceMul, Nat.reduceBEq, Nat.reduceLeDiff, Int.reduceBEq, Int.reduceBNe, Int.reduceToNat, ne_eq, implies_true, bA]
        refine callI t0 ?_
        simp (config := {maxSteps := 4000000}) only [U_law17_ModelLast, dg, reduceIte, reduceCtorEq, Nat.reduceEqDiff, Nat.reduceAdd, Int.reduceLT, Int.reduceLE, Int.reduceNeg, Int.reduceEq, Nat.reduceLT, Nat.reduceSub, Nat.reduceMul, Nat.reduceBEq, Nat.reduceLeDiff, Int.reduceBEq, Int.reduceBNe, Int.reduceToNat, ne_eq, implies_true, bA]
        refine callM (do_k hM2 ⟨7, 7, a, 1, []⟩ (by simp) (last_d h0 h1 (some blankB)) (by simp)) ?_
        rintro r ob9 ⟨rfl, fp9, hM9, hF9⟩
        simp (config := {maxSteps := 4000000}) only [U_law17_ModelLast, ap0, st0, Option.getD_some, Option.getD_none, e1, reduceIte, reduceCtorEq, Nat.reduceEqDiff, Nat.reduceAdd, Int.reduceLT, Int.reduceLE, Int.reduceNeg, Int.reduceEq, Nat.reduceLT, Nat.reduceSub, Nat.reduceMul, Nat.reduceBEq, Nat.reduceLeDiff, Int.reduceBEq, Int.reduceBNe, Int.reduceToNat, ne_eq, implies_true, bA]
        exact ⟨(ob9 ++ [_], fp9, i + 1, (some blankB)), rfl, ⟨hM9.app, hlt⟩, by show l.length - (i + 1) < l.length - i; omega⟩
      by_cases c2 : n = 2
      · have d0 : ((n : Int) == 0) = false := by simp; omega
        have d1 : ((n : Int) == 1) = false := by simp; omega
        have d2 : ((n : Int) == 2) = true := by simp; omega
        have dg : decide (2 < (n : Int)) = false := by simp; omega
        simp (config := {maxSteps := 4000000}) only [U_law17_ModelLast, ap0, st0, d0, d1, d2, reduceIte, reduceCtorEq, Nat.reduceEqDiff, Nat.reduceAdd, Int.reduceLT, Int.reduceLE, Int.reduceNeg, Int.reduceEq, Nat.reduceLT, Nat.reduceSub, Nat.reduceMul, Nat.reduceBEq, Nat.reduceLeDiff, Int.reduceBEq, Int.reduceBNe, Int.reduceToNat, ne_eq, implies_true, bA]
        refine callM (do_k hM.app ⟨2, 7, 0, a, []⟩ (by simp) (last_r h0 h1 o) (by simp)) ?_
        rintro r ob2 ⟨rfl, fp2, hM2, hF2⟩
        simp (config := {maxSteps := 4000000}) only [U_law17_ModelLast, d0, d1, d2, reduceIte, reduceCtorEq, Nat.reduceEqDiff, Nat.reduceAdd, Int.reduceLT, Int.reduceLE, Int.reduceNeg, Int.reduceEq, Nat.reduceLT, Nat.reduceSub, Nat.reduceMul, Nat.reduceBEq, Nat.reduceLeDiff, Int.reduceBEq, Int.reduceBNe, Int.reduceToNat, ne_eq, implies_true, bA]
        refine callM (do_k hM2 ⟨2, 7, 0, 20, []⟩ (by simp) last_g (by simp)) ?_
        rintro r ob3 ⟨rfl, fp3, hM3, hF3⟩
        simp (config := {maxSteps := 4000000}) only [U_law17_ModelLast, d0, d1, d2, reduceIte, reduceCtorEq, Nat.reduceEqDiff, Nat.reduceAdd, Int.reduceLT, Int.reduceLE, Int.reduceNeg, Int.reduceEq, Nat.reduceLT, Nat.reduceSub, Nat.reduceMul, Nat.reduceBEq, Nat.reduceLeDiff, Int.reduceBEq, Int.reduceBNe, Int.reduceToNat, ne_eq, implies_true, bA]
        refine callI t0 ?_
        simp (config := {maxSteps := 4000000}) only [U_law17_ModelLast, dg, reduceIte, reduceCtorEq, Nat.reduceEqDiff, Nat.reduceAdd, Int.reduceLT, Int.reduceLE, Int.reduceNeg, Int.reduceEq, Nat.reduceLT, Nat.reduceSub, Nat.reduceMul, Nat.reduceBEq, Nat.reduceLeDiff, Int.reduceBEq, Int.reduceBNe, Int.reduceToNat, ne_eq, implies_true, bA]
        refine callM (do_k hM3 ⟨7, 7, a, 1, []⟩ (by simp) (last_d h0 h1 none) (by simp)) ?_
        rintro r ob9 ⟨rfl, fp9, hM9, hF9⟩
        simp (config := {maxSteps := 4000000}) only [U_law17_ModelLast, ap0, st0, Option.getD_some, Option.getD_none, e1, reduceIte, reduceCtorEq, Nat.reduceEqDiff, Nat.reduceAdd, Int.reduceLT, Int.reduceLE, Int.reduceNeg, Int.reduceEq, Nat.reduceLT, Nat.reduceSub, Nat.reduceMul, Nat.reduceBEq, Nat.reduceLeDiff, Int.reduceBEq, Int.reduceBNe, Int.reduceToNat, ne_eq, implies_true, bA]
        exact ⟨(ob9 ++ [_], fp9, i + 1, none), rfl, ⟨hM9.app, hlt⟩, by show l.length - (i + 1) < l.length - i; omega⟩
      · have d0 : ((n : Int) == 0) = false := by simp; omega
        have d1 : ((n : Int) == 1) = false := by simp; omega
        have d2 : ((n : Int) == 2) = false := by simp; omega
        have dg : decide (2 < (n : Int)) = true := by simp; omega
        simp (config := {maxSteps := 4000000}) only [U_law17_ModelLast, ap0, st0, d0, d1, d2, reduceIte, reduceCtorEq, Nat.reduceEqDiff, Nat.reduceAdd, Int.reduceLT, Int.reduceLE, Int.reduceNeg, Int.reduceEq, Nat.reduceLT, Nat.reduceSub, Nat.reduceMul, Nat.reduceBEq, Nat.reduceLeDiff, Int.reduceBEq, Int.reduceBNe, Int.reduceToNat, ne_eq, implies_true, bA]
        refine callM (do_k hM.app ⟨4, 7, a, 0, tx x⟩ (by simp [tx]) (last_w h0 h1 o x) (by simp)) ?_
        rintro r ob2 ⟨rfl, fp2, hM2, hF2⟩
        simp (config := {maxSteps := 4000000}) only [U_law17_ModelLast, d0, d1, d2, reduceIte, reduceCtorEq, Nat.reduceEqDiff, Nat.reduceAdd, Int.reduceLT, Int.reduceLE, Int.reduceNeg, Int.reduceEq, Nat.reduceLT, Nat.reduceSub, Nat.reduceMul, Nat.reduceBEq, Nat.reduceLeDiff, Int.reduceBEq, Int.reduceBNe, Int.reduceToNat, ne_eq, implies_true, bA]
        refine callI t0 ?_
        simp (config := {maxSteps := 4000000}) only [U_law17_ModelLast, dg, reduceIte, reduceCtorEq, Nat.reduceEqDiff, Nat.reduceAdd, Int.reduceLT, Int.reduceLE, Int.reduceNeg, Int.reduceEq, Nat.reduceLT, Nat.reduceSub, Nat.reduceMul, Nat.reduceBEq, Nat.reduceLeDiff, Int.reduceBEq, Int.reduceBNe, Int.reduceToNat, ne_eq, implies_true, bA]
        refine callI tX ?_
        simp (config := {maxSteps := 4000000}) only [U_law17_ModelLast, reduceIte, reduceCtorEq, Nat.reduceEqDiff, Nat.reduceAdd, Int.reduceLT, Int.reduceLE, Int.reduceNeg, Int.reduceEq, Nat.reduceLT, Nat.reduceSub, Nat.reduceMul, Nat.reduceBEq, Nat.reduceLeDiff, Int.reduceBEq, Int.reduceBNe, Int.reduceToNat, ne_eq, implies_true, bA]
        refine callM (do_k hM2 ⟨7, 7, a, 1, []⟩ (by simp) (last_d h0 h1 (some (tx x))) (by simp)) ?_
        rintro r ob9 ⟨rfl, fp9, hM9, hF9⟩
        simp (config := {maxSteps := 4000000}) only [U_law17_ModelLast, ap0, st0, Option.getD_some, Option.getD_none, e1, reduceIte, reduceCtorEq, Nat.reduceEqDiff, Nat.reduceAdd, Int.reduceLT, Int.reduceLE, Int.reduceNeg, Int.reduceEq, Nat.reduceLT, Nat.reduceSub, Nat.reduceMul, Nat.reduceBEq, Nat.reduceLeDiff, Int.reduceBEq, Int.reduceBNe, Int.reduceToNat, ne_eq, implies_true, bA]
        exact ⟨(ob9 ++ [_], fp9, i + 1, (some (tx x))), rfl, ⟨hM9.app, hlt⟩, by show l.length - (i + 1) < l.length - i; omega⟩
    · have d40 : decide ((i : Int) < 40) = false := by simp; omega
      simp (config := {maxSteps := 4000000}) only [U_law17_ModelLast, d, d40, hbl, reduceIte, reduceCtorEq, Nat.reduceEqDiff, Nat.reduceAdd, Int.reduceLT, Int.reduceLE, Int.reduceNeg, Int.reduceEq, Nat.reduceLT, Nat.reduceSub, Nat.reduceMul, Nat.reduceBEq, Nat.reduceLeDiff, Int.reduceBEq, Int.reduceBNe, Int.reduceToNat, ne_eq, implies_true, bA]
  · have d : decide ((i : Int) < (l.length : Int)) = false := by simpa using hlt
    simp (config := {maxSteps := 4000000}) only [U_law17_ModelLast, d, hbl, reduceIte, reduceCtorEq, Nat.reduceEqDiff, Nat.reduceAdd, Int.reduceLT, Int.reduceLE, Int.reduceNeg, Int.reduceEq, Nat.reduceLT, Nat.reduceSub, Nat.reduceMul, Nat.reduceBEq, Nat.reduceLeDiff, Int.reduceBEq, Int.reduceBNe, Int.reduceToNat, ne_eq, implies_true, bA]
end Go.Proofs.Ythjnfjgejdlbfaa.Aw
