/-
  The laws of layer 17: their own functions, and a model that is nil.
-/
import Derived.Test.YthjnfjgejdlbfaaPMC
set_option linter.unusedSimpArgs false
set_option linter.unusedVariables false
namespace Go.Proofs.Ythjnfjgejdlbfaa.Aw
open Go.RowKit

theorem text_spec (n : Nat) (x : UInt8) (hn : n ≤ 1000) {b : Int} (hb : b = (x.toNat : Int)) : PCall Try.prog 14 [.int .i64 (n : Int), .int .u8 b] (.str (List.replicate (n * 32) x)) := by
  refine pcall_dr Try.func14 comp_law17_Text ?_
  subst hb
  have e0 : IntKind.i64.wrap ((n : Int) * 32) = ((n * 32 : Nat) : Int) := by rw [wrapI (by omega) (by omega)]; omega
  simp (config := {maxSteps := 4000000}) only [U_law17_Text, reduceIte, reduceCtorEq, Nat.reduceEqDiff, Nat.reduceAdd, Int.reduceLT, Int.reduceLE, Int.reduceNeg, Int.reduceEq, Nat.reduceLT, Nat.reduceSub, Nat.reduceMul, Nat.reduceBEq, Nat.reduceLeDiff, Int.reduceBEq, Int.reduceBNe, Int.reduceToNat, ne_eq, implies_true, bA]
  refine loopF (fun i : Nat => ⟨ofL [(0, .int .i64 (n : Int)), (1, .int .u8 (x.toNat : Int)), (5, .osl 0 0 i), (6, .int .i64 (i : Int))], [.list 1 (byteRows (List.replicate i x))]⟩) (fun i => i ≤ n * 32) (fun i => n * 32 - i) 0 ?_ (Nat.zero_le _) ?_
  · simp (config := {maxSteps := 4000000}) only [U_law17_Text, reduceIte, reduceCtorEq, Nat.reduceEqDiff, Nat.reduceAdd, Int.reduceLT, Int.reduceLE, Int.reduceNeg, Int.reduceEq, Nat.reduceLT, Nat.reduceSub, Nat.reduceMul, Nat.reduceBEq, Nat.reduceLeDiff, Int.reduceBEq, Int.reduceBNe, Int.reduceToNat, ne_eq, implies_true, bA]
    all_goals rfl
  · intro i hi
    have hl : (List.replicate i x).length = i := by simp
    by_cases h : i < n * 32
    · have d : decide ((i : Int) < ((n * 32 : Nat) : Int)) = true := by simp only [decide_eq_true_eq]; omega
      have e1 : IntKind.i64.wrap ((i : Int) + 1) = ((i + 1 : Nat) : Int) := by rw [wrapI (by omega) (by omega)]; omega
      have ab : ∀ nw, appO [AObj.list 1 (byteRows (List.replicate i x))] [] nw 1 (.osl 0 0 i) (some [[.int .u8 (x.toNat : Int)]]) = some (.osl 0 0 (i + 1), [AObj.list 1 (byteRows (List.replicate i x ++ [x]))]) := fun nw =>
        app_byte (ob := [AObj.list 1 (byteRows (List.replicate i x))]) (fb := []) (nw := nw) (o := 0) (n := i) (l := List.replicate i x) (b := x) rfl rfl hl.symm (by omega)
      simp (config := {maxSteps := 4000000}) only [U_law17_Text, e0, d, ab, e1, reduceIte, reduceCtorEq, Nat.reduceEqDiff, Nat.reduceAdd, Int.reduceLT, Int.reduceLE, Int.reduceNeg, Int.reduceEq, Nat.reduceLT, Nat.reduceSub, Nat.reduceMul, Nat.reduceBEq, Nat.reduceLeDiff, Int.reduceBEq, Int.reduceBNe, Int.reduceToNat, ne_eq, implies_true, bA]
      exact ⟨i + 1, by rw [List.replicate_succ'], h, by omega⟩
    · obtain rfl : i = n * 32 := by omega
      have d : decide (((n * 32 : Nat) : Int) < ((n * 32 : Nat) : Int)) = false := by simp
      have hr : rowsO (some (AObj.list 1 (byteRows (List.replicate (n * 32) x)))) 0 (n * 32) = some (byteRows (List.replicate (n * 32) x)) := rowsO_bytes hl.symm
      simp (config := {maxSteps := 4000000}) only [U_law17_Text, e0, d, hr, b2sV_rows, bytesOf_byteRows, reduceIte, reduceCtorEq, Nat.reduceEqDiff, Nat.reduceAdd, Int.reduceLT, Int.reduceLE, Int.reduceNeg, Int.reduceEq, Nat.reduceLT, Nat.reduceSub, Nat.reduceMul, Nat.reduceBEq, Nat.reduceLeDiff, Int.reduceBEq, Int.reduceBNe, Int.reduceToNat, ne_eq, implies_true, bA]
theorem small_spec (q : Rq) : PCall Try.prog 13 [pQ q] (.bool (decide ((q.d.length : Int) ≤ 1000))) := by
  refine pcall_dr Try.func13 comp_law17_small ?_
  simp (config := {maxSteps := 4000000}) only [U_law17_small, reduceIte, reduceCtorEq, Nat.reduceEqDiff, Nat.reduceAdd, Int.reduceLT, Int.reduceLE, Int.reduceNeg, Int.reduceEq, Nat.reduceLT, Nat.reduceSub, Nat.reduceMul, Nat.reduceBEq, Nat.reduceLeDiff, Int.reduceBEq, Int.reduceBNe, Int.reduceToNat, ne_eq, implies_true, bA]

theorem Frame.at {ob ob' : List AObj} {fp fp' : List Nat} (hF : Frame ob fp ob' fp') {j : Nat} {x : AObj} (h : ob[j]? = some x ∧ j ∉ fp) : ob'[j]? = some x ∧ j ∉ fp' := by
  have hl := lt_of_get h.1
  refine ⟨(hF.out j hl h.2).trans h.1, fun hc => ?_⟩
  rcases hF.new j hc with h1 | h1
  · exact h.2 h1
  · omega
theorem at_app {ob l : List AObj} {fp : List Nat} {j : Nat} {x : AObj} (h : ob[j]? = some x ∧ j ∉ fp) : (ob ++ l)[j]? = some x ∧ j ∉ fp := ⟨apL h.1 l, h.2⟩
theorem Mod.out {ob fp b cap A} (h : Mod ob fp b cap A) {j : Nat} (hj : ob.length ≤ j) : j ∉ fp := fun hc => by have := h.lt j hc; omega
theorem do_k {ob fp b cap A} (h : Mod ob fp b cap A) (q : Rq) (hq : q.d.length ≤ 1000) {A' : List Spc} {e sz us : Int} {d : List UInt8} (hd : doV cap A q = (A', ⟨e, d, sz, us⟩)) (h10 : q.op ≠ 10) :
    ICall Try.prog 12 [.ref b 0, pQ q] ob fun r ob' => r = repP e d sz us (.slc []) ∧ ∃ fp', Mod ob' fp' b cap A' ∧ Frame ob fp ob' fp' := by
  refine callM (do_i h q hq) ?_
  rintro r ob' ⟨ids, fp', h1, h2, h3, h4, _⟩
  rw [hd] at h1 h2
  rw [h4 h10] at h1
  exact ⟨h1, fp', h2, h3⟩

set_option maxHeartbeats 1000000 in
theorem awake_spec : PCall Try.prog 11 [] (.bool true) := by
  refine pcall_dr Try.func11 comp_law17_awake ?_
  have t1 := text_spec 1 120 (by omega) (b := 120) rfl
  have t2 := text_spec 2 120 (by omega) (b := 120) rfl
  have t0 := text_spec 1 0 (by omega) (b := 0) rfl
  simp (config := {maxSteps := 4000000}) only [U_law17_awake, reduceIte, reduceCtorEq, Nat.reduceEqDiff, Nat.reduceAdd, Int.reduceLT, Int.reduceLE, Int.reduceNeg, Int.reduceEq, Nat.reduceLT, Nat.reduceSub, Nat.reduceMul, Nat.reduceBEq, Nat.reduceLeDiff, Int.reduceBEq, Int.reduceBNe, Int.reduceToNat, ne_eq, implies_true, bA]
  refine callM (new_i [] 5 (by omega)) ?_
  rintro r ob1 ⟨fp1, rfl, hM, hF⟩
  replace hM : Mod ob1 fp1 1 5 [] := hM
  simp (config := {maxSteps := 4000000}) only [U_law17_awake, reduceIte, reduceCtorEq, Nat.reduceEqDiff, Nat.reduceAdd, Int.reduceLT, Int.reduceLE, Int.reduceNeg, Int.reduceEq, Nat.reduceLT, Nat.reduceSub, Nat.reduceMul, Nat.reduceBEq, Nat.reduceLeDiff, Int.reduceBEq, Int.reduceBNe, Int.reduceToNat, ne_eq, implies_true, bA]
  refine callM (do_k hM ⟨1, 1, 0, 10, []⟩ (by simp) (A' := [⟨1, 10, []⟩]) (e := 0) (d := []) (sz := 0) (us := 0) (by kernel_rfl) (by simp)) ?_
  rintro r ob2 ⟨rfl, fp2, hM2, hF2⟩
  simp (config := {maxSteps := 4000000}) only [U_law17_awake, ap0, st0, reduceIte, reduceCtorEq, Nat.reduceEqDiff, Nat.reduceAdd, Int.reduceLT, Int.reduceLE, Int.reduceNeg, Int.reduceEq, Nat.reduceLT, Nat.reduceSub, Nat.reduceMul, Nat.reduceBEq, Nat.reduceLeDiff, Int.reduceBEq, Int.reduceBNe, Int.reduceToNat, ne_eq, implies_true, bA]
  refine callI t2 ?_
  have x0 : (ob2 ++ [AObj.box [.int .i64 0, .str [], .int .i64 0, .int .i64 0, .slc []]])[ob2.length]? = some (.box [.int .i64 0, .str [], .int .i64 0, .int .i64 0, .slc []]) ∧ ob2.length ∉ fp2 := ⟨by rw [ap0]; rfl, hM2.out (Nat.le_refl _)⟩
  simp (config := {maxSteps := 4000000}) only [U_law17_awake, ap0, st0, reduceIte, reduceCtorEq, Nat.reduceEqDiff, Nat.reduceAdd, Int.reduceLT, Int.reduceLE, Int.reduceNeg, Int.reduceEq, Nat.reduceLT, Nat.reduceSub, Nat.reduceMul, Nat.reduceBEq, Nat.reduceLeDiff, Int.reduceBEq, Int.reduceBNe, Int.reduceToNat, ne_eq, implies_true, bA]
  refine callM (do_k hM2.app ⟨4, 1, 3, 0, List.replicate (2 * 32) 120⟩ (by simp) (A' := [⟨1, 10, [⟨3, List.replicate 32 120⟩, ⟨4, List.replicate 32 120⟩]⟩]) (e := 0) (d := []) (sz := 0) (us := 0) (by kernel_rfl) (by simp)) ?_
  rintro r ob3 ⟨rfl, fp3, hM3, hF3⟩
  have x1 := hF3.at x0
  have y0 : (ob3 ++ [AObj.box [.int .i64 0, .str [], .int .i64 0, .int .i64 0, .slc []]])[ob3.length]? = some (.box [.int .i64 0, .str [], .int .i64 0, .int .i64 0, .slc []]) ∧ ob3.length ∉ fp3 := ⟨by rw [ap0]; rfl, hM3.out (Nat.le_refl _)⟩
  simp (config := {maxSteps := 4000000}) only [U_law17_awake, ap0, st0, reduceIte, reduceCtorEq, Nat.reduceEqDiff, Nat.reduceAdd, Int.reduceLT, Int.reduceLE, Int.reduceNeg, Int.reduceEq, Nat.reduceLT, Nat.reduceSub, Nat.reduceMul, Nat.reduceBEq, Nat.reduceLeDiff, Int.reduceBEq, Int.reduceBNe, Int.reduceToNat, ne_eq, implies_true, bA]
  refine callM (do_k hM3.app ⟨6, 1, 4, 1, []⟩ (by simp) (A' := [⟨1, 10, [⟨3, List.replicate 32 120⟩]⟩]) (e := 0) (d := []) (sz := 0) (us := 0) (by kernel_rfl) (by simp)) ?_
  rintro r ob4 ⟨rfl, fp4, hM4, hF4⟩
  have x2 := hF4.at (at_app x1)
  have y1 := hF4.at y0
  have z0 : (ob4 ++ [AObj.box [.int .i64 0, .str [], .int .i64 0, .int .i64 0, .slc []]])[ob4.length]? = some (.box [.int .i64 0, .str [], .int .i64 0, .int .i64 0, .slc []]) ∧ ob4.length ∉ fp4 := ⟨by rw [ap0]; rfl, hM4.out (Nat.le_refl _)⟩
  simp (config := {maxSteps := 4000000}) only [U_law17_awake, ap0, st0, reduceIte, reduceCtorEq, Nat.reduceEqDiff, Nat.reduceAdd, Int.reduceLT, Int.reduceLE, Int.reduceNeg, Int.reduceEq, Nat.reduceLT, Nat.reduceSub, Nat.reduceMul, Nat.reduceBEq, Nat.reduceLeDiff, Int.reduceBEq, Int.reduceBNe, Int.reduceToNat, ne_eq, implies_true, bA]
  refine callM (do_k hM4.app ⟨7, 1, 3, 2, []⟩ (by simp) (A' := [⟨1, 10, [⟨3, List.replicate 32 120⟩]⟩]) (e := 0) (d := List.replicate 32 120 ++ List.replicate 32 0) (sz := 0) (us := 0) (by kernel_rfl) (by simp)) ?_
  rintro r ob5 ⟨rfl, fp5, hM5, hF5⟩
  have x3 := hF5.at (at_app x2)
  have y2 := hF5.at (at_app y1)
  have z1 := hF5.at z0
  have u0 : (ob5 ++ [AObj.box [.int .i64 0, .str (List.replicate 32 120 ++ List.replicate 32 0), .int .i64 0, .int .i64 0, .slc []]])[ob5.length]? = some (.box [.int .i64 0, .str (List.replicate 32 120 ++ List.replicate 32 0), .int .i64 0, .int .i64 0, .slc []]) ∧ ob5.length ∉ fp5 := ⟨by rw [ap0]; rfl, hM5.out (Nat.le_refl _)⟩
  simp (config := {maxSteps := 4000000}) only [U_law17_awake, ap0, st0, reduceIte, reduceCtorEq, Nat.reduceEqDiff, Nat.reduceAdd, Int.reduceLT, Int.reduceLE, Int.reduceNeg, Int.reduceEq, Nat.reduceLT, Nat.reduceSub, Nat.reduceMul, Nat.reduceBEq, Nat.reduceLeDiff, Int.reduceBEq, Int.reduceBNe, Int.reduceToNat, ne_eq, implies_true, bA]
  refine callM (do_k hM5.app ⟨9, 1, 0, 0, []⟩ (by simp) (A' := [⟨1, 10, [⟨3, List.replicate 32 120⟩]⟩]) (e := 0) (d := []) (sz := 10) (us := 1) (by kernel_rfl) (by simp)) ?_
  rintro r ob6 ⟨rfl, fp6, hM6, hF6⟩
  have x4 := fun l => apL (hF6.at (at_app x3)).1 l
  have y3 := fun l => apL (hF6.at (at_app y2)).1 l
  have z2 := fun l => apL (hF6.at (at_app z1)).1 l
  have u1 := fun l => apL (hF6.at u0).1 l
  simp (config := {maxSteps := 4000000}) only [U_law17_awake, ap0, st0, x4, y3, z2, u1, reduceIte, reduceCtorEq, Nat.reduceEqDiff, Nat.reduceAdd, Int.reduceLT, Int.reduceLE, Int.reduceNeg, Int.reduceEq, Nat.reduceLT, Nat.reduceSub, Nat.reduceMul, Nat.reduceBEq, Nat.reduceLeDiff, Int.reduceBEq, Int.reduceBNe, Int.reduceToNat, ne_eq, implies_true, bA]
  refine callI t1 ?_
  simp (config := {maxSteps := 4000000}) only [U_law17_awake, reduceIte, reduceCtorEq, Nat.reduceEqDiff, Nat.reduceAdd, Int.reduceLT, Int.reduceLE, Int.reduceNeg, Int.reduceEq, Nat.reduceLT, Nat.reduceSub, Nat.reduceMul, Nat.reduceBEq, Nat.reduceLeDiff, Int.reduceBEq, Int.reduceBNe, Int.reduceToNat, ne_eq, implies_true, bA]
  refine callI t0 ?_
  have ha : ∀ a b : List UInt8, a.length = 32 → b.length = 32 → binS .add a b = some (.str (a ++ b)) := fun a b h1 h2 => binS_add (by omega)
  simp (config := {maxSteps := 4000000}) only [U_law17_awake, ap0, st0, x4, y3, z2, u1, ha, reduceIte, reduceCtorEq, Nat.reduceEqDiff, Nat.reduceAdd, Int.reduceLT, Int.reduceLE, Int.reduceNeg, Int.reduceEq, Nat.reduceLT, Nat.reduceSub, Nat.reduceMul, Nat.reduceBEq, Nat.reduceLeDiff, Int.reduceBEq, Int.reduceBNe, Int.reduceToNat, ne_eq, implies_true, bA]

end Go.Proofs.Ythjnfjgejdlbfaa.Aw
