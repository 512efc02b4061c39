/-
  What the functions of the package 'leaf' compute, and the document's: nodes as bytes, and back.
-/
import Derived.Test.YtlkpceacmfndlaaPLeaf2
import Derived.Test.YtlkpceacmfndlaaCode2
import Derived.Test.YtlkpceacmfndlaaAwFit
set_option linter.unusedSimpArgs false
set_option linter.unusedVariables false
namespace Go.Proofs.Ytlkpceacmfndlaa.Aw
open Go.RowKit

theorem rput_n (n : Int) (w : Nat) (h0 : 0 ≤ n) (h : n.toNat < 256 ^ w) (h1 : 1 ≤ w) (h8 : w ≤ 8) : PCall Try.prog 29 [.int .i64 n, .int .i64 w] (.str (leB w n.toNat)) := by
  refine pcall_go Try.func29 comp_ref09_put ?_
  have hp : 256 ^ w ≤ 256 ^ 8 := Nat.pow_le_pow_right (by decide) h8
  have e1 : IntKind.u64.wrap n = ((n.toNat : Nat) : Int) := wrapU_nat h0 (by omega)
  simp (config := {maxSteps := 4000000}) only [U_ref09_put, e1, reduceIte, reduceCtorEq, Nat.reduceEqDiff, Nat.reduceAdd, Int.reduceLT, Int.reduceLE, Int.reduceNeg, Int.reduceEq, Nat.reduceLT, Nat.reduceSub, Nat.reduceMul, Nat.reduceBEq, Nat.reduceLeDiff, Int.reduceBEq, Int.reduceBNe, Int.reduceToNat, ne_eq, implies_true, bA]
  refine callI (rput_spec n.toNat w (by omega)) ?_
  have hw : wid (w : Int) = true := wid_iff.2 ⟨by omega, by omega⟩
  have hr : putS n.toNat w = (leB w n.toNat, 0) := by rw [putS, hw, if_neg (by simp), Int.toNat_natCast, if_pos h]
  rw [hr]
  simp (config := {maxSteps := 4000000}) only [U_ref09_put, reduceIte, reduceCtorEq, Nat.reduceEqDiff, Nat.reduceAdd, Int.reduceLT, Int.reduceLE, Int.reduceNeg, Int.reduceEq, Nat.reduceLT, Nat.reduceSub, Nat.reduceMul, Nat.reduceBEq, Nat.reduceLeDiff, Int.reduceBEq, Int.reduceBNe, Int.reduceToNat, ne_eq, implies_true, bA]
theorem rget_n (s : List UInt8) (a w : Nat) (hs : s.length ≤ 1000000) (ha : a ≤ 1000000) (h1 : 1 ≤ w) (h6 : w ≤ 6) : PCall Try.prog 32 [.str s, .int .i64 a, .int .i64 w] (.int .i64 (gS s a w)) := by
  refine pcall_go Try.func32 comp_ref09_get ?_
  simp (config := {maxSteps := 4000000}) only [U_ref09_get, reduceIte, reduceCtorEq, Nat.reduceEqDiff, Nat.reduceAdd, Int.reduceLT, Int.reduceLE, Int.reduceNeg, Int.reduceEq, Nat.reduceLT, Nat.reduceSub, Nat.reduceMul, Nat.reduceBEq, Nat.reduceLeDiff, Int.reduceBEq, Int.reduceBNe, Int.reduceToNat, ne_eq, implies_true, bA]
  refine callI (rget_spec s a w (by omega) (by omega) (by omega)) ?_
  have hlt : (getS s a w).1 < 256 ^ 6 := by
    unfold getS
    split
    · simp
    · split
      · simp
      · have hl := leN_lt ((s.drop (a : Int).toNat).take (w : Int).toNat)
        have : ((s.drop (a : Int).toNat).take (w : Int).toNat).length ≤ w := by simp; omega
        have hp : (256 : Nat) ^ ((s.drop (a : Int).toNat).take (w : Int).toNat).length ≤ 256 ^ 6 := Nat.pow_le_pow_right (by decide) (by omega)
        exact Nat.lt_of_lt_of_le hl hp
  have e1 : IntKind.i64.wrap ((getS s a w).1 : Int) = gS s a w := by rw [wrapI (by omega) (by omega)]; rfl
  simp (config := {maxSteps := 4000000}) only [U_ref09_get, e1, reduceIte, reduceCtorEq, Nat.reduceEqDiff, Nat.reduceAdd, Int.reduceLT, Int.reduceLE, Int.reduceNeg, Int.reduceEq, Nat.reduceLT, Nat.reduceSub, Nat.reduceMul, Nat.reduceBEq, Nat.reduceLeDiff, Int.reduceBEq, Int.reduceBNe, Int.reduceToNat, ne_eq, implies_true, bA]
theorem Leaf_spec (l : List Xt) (hm : l.length ≤ 9223372036854775807) : PCall Try.prog 10 [.slc (l.map rowE)] (.tup [.str (writeG entE leafB l).1, .int .i64 (writeG entE leafB l).2]) := by
  refine pcall_go Try.func10 comp_leaf_Leaf ?_
  simp (config := {maxSteps := 4000000}) only [U_leaf_Leaf, reduceIte, reduceCtorEq, Nat.reduceEqDiff, Nat.reduceAdd, Int.reduceLT, Int.reduceLE, Int.reduceNeg, Int.reduceEq, Nat.reduceLT, Nat.reduceSub, Nat.reduceMul, Nat.reduceBEq, Nat.reduceLeDiff, Int.reduceBEq, Int.reduceBNe, Int.reduceToNat, ne_eq, implies_true, bA]
  refine callI (extents_spec l hm) ?_
  cases h : leafB l with
  | false =>
    have hw : writeG entE leafB l = ([], 1) := by rw [writeG, if_neg (by rw [h]; simp)]
    rw [hw]
    simp (config := {maxSteps := 4000000}) only [U_leaf_Leaf, reduceIte, reduceCtorEq, Nat.reduceEqDiff, Nat.reduceAdd, Int.reduceLT, Int.reduceLE, Int.reduceNeg, Int.reduceEq, Nat.reduceLT, Nat.reduceSub, Nat.reduceMul, Nat.reduceBEq, Nat.reduceLeDiff, Int.reduceBEq, Int.reduceBNe, Int.reduceToNat, ne_eq, implies_true, bA]
  | true =>
    have hw : writeG entE leafB l = (recG entE l, 0) := by rw [writeG, if_pos h]
    rw [hw]
    simp (config := {maxSteps := 4000000}) only [U_leaf_Leaf, reduceIte, reduceCtorEq, Nat.reduceEqDiff, Nat.reduceAdd, Int.reduceLT, Int.reduceLE, Int.reduceNeg, Int.reduceEq, Nat.reduceLT, Nat.reduceSub, Nat.reduceMul, Nat.reduceBEq, Nat.reduceLeDiff, Int.reduceBEq, Int.reduceBNe, Int.reduceToNat, ne_eq, implies_true, bA]
    refine callI extWidths_spec ?_
    simp (config := {maxSteps := 4000000}) only [U_leaf_Leaf, reduceIte, reduceCtorEq, Nat.reduceEqDiff, Nat.reduceAdd, Int.reduceLT, Int.reduceLE, Int.reduceNeg, Int.reduceEq, Nat.reduceLT, Nat.reduceSub, Nat.reduceMul, Nat.reduceBEq, Nat.reduceLeDiff, Int.reduceBEq, Int.reduceBNe, Int.reduceToNat, ne_eq, implies_true, bA]
    refine callI (writeExt_spec l (by have := (leafB_iff.1 h).2.1; omega) (leaf_fit h)) ?_
    simp (config := {maxSteps := 4000000}) only [U_leaf_Leaf, reduceIte, reduceCtorEq, Nat.reduceEqDiff, Nat.reduceAdd, Int.reduceLT, Int.reduceLE, Int.reduceNeg, Int.reduceEq, Nat.reduceLT, Nat.reduceSub, Nat.reduceMul, Nat.reduceBEq, Nat.reduceLeDiff, Int.reduceBEq, Int.reduceBNe, Int.reduceToNat, ne_eq, implies_true, bA]
theorem ReadLeaf_spec (s : List UInt8) (hs : s.length ≤ 1000000) : PCall Try.prog 13 [.str s] (.tup [.slc ((readG entE exAt 10 leafB s).1.map rowE), .int .i64 (readG entE exAt 10 leafB s).2]) := by
  refine pcall_go Try.func13 comp_leaf_ReadLeaf ?_
  simp (config := {maxSteps := 4000000}) only [U_leaf_ReadLeaf, reduceIte, reduceCtorEq, Nat.reduceEqDiff, Nat.reduceAdd, Int.reduceLT, Int.reduceLE, Int.reduceNeg, Int.reduceEq, Nat.reduceLT, Nat.reduceSub, Nat.reduceMul, Nat.reduceBEq, Nat.reduceLeDiff, Int.reduceBEq, Int.reduceBNe, Int.reduceToNat, ne_eq, implies_true, bA]
  refine callI extWidths_spec ?_
  simp (config := {maxSteps := 4000000}) only [U_leaf_ReadLeaf, reduceIte, reduceCtorEq, Nat.reduceEqDiff, Nat.reduceAdd, Int.reduceLT, Int.reduceLE, Int.reduceNeg, Int.reduceEq, Nat.reduceLT, Nat.reduceSub, Nat.reduceMul, Nat.reduceBEq, Nat.reduceLeDiff, Int.reduceBEq, Int.reduceBNe, Int.reduceToNat, ne_eq, implies_true, bA]
  refine callI (readExt_spec (fun l hl => extents_spec l (by omega)) s hs) ?_
  simp (config := {maxSteps := 4000000}) only [U_leaf_ReadLeaf, reduceIte, reduceCtorEq, Nat.reduceEqDiff, Nat.reduceAdd, Int.reduceLT, Int.reduceLE, Int.reduceNeg, Int.reduceEq, Nat.reduceLT, Nat.reduceSub, Nat.reduceMul, Nat.reduceBEq, Nat.reduceLeDiff, Int.reduceBEq, Int.reduceBNe, Int.reduceToNat, ne_eq, implies_true, bA]
theorem rLeaf_spec (l : List Xt) (hm : l.length ≤ 9223372036854775807) : PCall Try.prog 11 [.slc (l.map rowE)] (.tup [.str (writeG entE leafB l).1, .int .i64 (writeG entE leafB l).2]) := by
  refine pcall_go Try.func11 comp_ref09_Leaf ?_
  simp (config := {maxSteps := 4000000}) only [U_ref09_Leaf, reduceIte, reduceCtorEq, Nat.reduceEqDiff, Nat.reduceAdd, Int.reduceLT, Int.reduceLE, Int.reduceNeg, Int.reduceEq, Nat.reduceLT, Nat.reduceSub, Nat.reduceMul, Nat.reduceBEq, Nat.reduceLeDiff, Int.reduceBEq, Int.reduceBNe, Int.reduceToNat, ne_eq, implies_true, bA]
  refine callI (leafy_spec l hm) ?_
  cases h : leafB l with
  | false =>
    have hw : writeG entE leafB l = ([], 1) := by rw [writeG, if_neg (by rw [h]; simp)]
    rw [hw]
    simp (config := {maxSteps := 4000000}) only [U_ref09_Leaf, reduceIte, reduceCtorEq, Nat.reduceEqDiff, Nat.reduceAdd, Int.reduceLT, Int.reduceLE, Int.reduceNeg, Int.reduceEq, Nat.reduceLT, Nat.reduceSub, Nat.reduceMul, Nat.reduceBEq, Nat.reduceLeDiff, Int.reduceBEq, Int.reduceBNe, Int.reduceToNat, ne_eq, implies_true, bA]
  | true =>
    have hw : writeG entE leafB l = (recG entE l, 0) := by rw [writeG, if_pos h]
    have h8 := (leafB_iff.1 h).2.1
    rw [hw]
    simp (config := {maxSteps := 4000000}) only [U_ref09_Leaf, reduceIte, reduceCtorEq, Nat.reduceEqDiff, Nat.reduceAdd, Int.reduceLT, Int.reduceLE, Int.reduceNeg, Int.reduceEq, Nat.reduceLT, Nat.reduceSub, Nat.reduceMul, Nat.reduceBEq, Nat.reduceLeDiff, Int.reduceBEq, Int.reduceBNe, Int.reduceToNat, ne_eq, implies_true, bA]
    refine callI (rput_n (l.length : Int) 1 (by omega) (by show l.length < 256; omega) (by omega) (by omega)) ?_
    rw [Int.toNat_natCast, ← accG_0 (ent := entE) l]
    simp (config := {maxSteps := 4000000}) only [U_ref09_Leaf, reduceIte, reduceCtorEq, Nat.reduceEqDiff, Nat.reduceAdd, Int.reduceLT, Int.reduceLE, Int.reduceNeg, Int.reduceEq, Nat.reduceLT, Nat.reduceSub, Nat.reduceMul, Nat.reduceBEq, Nat.reduceLeDiff, Int.reduceBEq, Int.reduceBNe, Int.reduceToNat, ne_eq, implies_true, bA]
    refine loopF (fun i : Nat => ⟨ofL [(0, .slc (l.map rowE)), (4, .str (accG entE l i)), (5, .int .i64 i)], []⟩) (fun i => i ≤ l.length) (fun i => l.length - i) 0 ?_ (Nat.zero_le _) ?_
    · simp (config := {maxSteps := 4000000}) only [U_ref09_Leaf, reduceIte, reduceCtorEq, Nat.reduceEqDiff, Nat.reduceAdd, Int.reduceLT, Int.reduceLE, Int.reduceNeg, Int.reduceEq, Nat.reduceLT, Nat.reduceSub, Nat.reduceMul, Nat.reduceBEq, Nat.reduceLeDiff, Int.reduceBEq, Int.reduceBNe, Int.reduceToNat, ne_eq, implies_true, bA]
      all_goals rfl
    · intro i hi
      by_cases hlt : i < l.length
      · have d : decide ((i : Int) < (l.length : Int)) = true := by simpa using hlt
        have e3 : IntKind.i64.wrap ((i : Int) + 1) = ((i + 1 : Nat) : Int) := by rw [wrapI (by omega) (by omega)]; omega
        obtain ⟨⟨q1, q2, q3, q4, q5⟩, q6⟩ := leaf_fit h _ (List.getElem_mem hlt)
        have hal := accG_len entE_len l i hi
        have hsucc := accG_succ (ent := entE) l i hlt
        have y0 : (leB 3 l[i].fr.toNat).length = 3 := leB_len _ _
        have y1 : (leB 4 l[i].n.toNat).length = 4 := leB_len _ _
        have y2 : (leB 1 l[i].kd.toNat).length = 1 := leB_len _ _
        have y3 : (leB 2 l[i].at_.toNat).length = 2 := leB_len _ _
        have f0 : binS .add (accG entE l i) (leB 3 l[i].fr.toNat) = some (.str (accG entE l i ++ (leB 3 l[i].fr.toNat))) := by rw [binS_cat (by simp [y0]; omega)] <;> simp [List.append_assoc]
        have f1 : binS .add (accG entE l i ++ (leB 3 l[i].fr.toNat)) (leB 4 l[i].n.toNat) = some (.str (accG entE l i ++ (leB 3 l[i].fr.toNat ++ (leB 4 l[i].n.toNat)))) := by rw [binS_cat (by simp [y0, y1]; omega)] <;> simp [List.append_assoc]
        have f2 : binS .add (accG entE l i ++ (leB 3 l[i].fr.toNat ++ (leB 4 l[i].n.toNat))) (leB 1 l[i].kd.toNat) = some (.str (accG entE l i ++ (leB 3 l[i].fr.toNat ++ (leB 4 l[i].n.toNat ++ (leB 1 l[i].kd.toNat))))) := by rw [binS_cat (by simp [y0, y1, y2]; omega)] <;> simp [List.append_assoc]
        have f3 : binS .add (accG entE l i ++ (leB 3 l[i].fr.toNat ++ (leB 4 l[i].n.toNat ++ (leB 1 l[i].kd.toNat)))) (leB 2 l[i].at_.toNat) = some (.str (accG entE l (i + 1))) := by rw [binS_cat (by simp [y0, y1, y2, y3]; omega), hsucc]; simp [entE, List.append_assoc]
        simp (config := {maxSteps := 4000000}) only [U_ref09_Leaf, d, islV_map (g := rowE) hlt (rowE_len _), rowE, reduceIte, reduceCtorEq, Nat.reduceEqDiff, Nat.reduceAdd, Int.reduceLT, Int.reduceLE, Int.reduceNeg, Int.reduceEq, Nat.reduceLT, Nat.reduceSub, Nat.reduceMul, Nat.reduceBEq, Nat.reduceLeDiff, Int.reduceBEq, Int.reduceBNe, Int.reduceToNat, ne_eq, implies_true, bA]
        refine callI (rput_n l[i].fr 3 (by omega) (by show l[i].fr.toNat < 16777216; omega) (by omega) (by omega)) ?_
        simp (config := {maxSteps := 4000000}) only [U_ref09_Leaf, islV_map (g := rowE) hlt (rowE_len _), rowE, f0, e3, reduceIte, reduceCtorEq, Nat.reduceEqDiff, Nat.reduceAdd, Int.reduceLT, Int.reduceLE, Int.reduceNeg, Int.reduceEq, Nat.reduceLT, Nat.reduceSub, Nat.reduceMul, Nat.reduceBEq, Nat.reduceLeDiff, Int.reduceBEq, Int.reduceBNe, Int.reduceToNat, ne_eq, implies_true, bA]
        refine callI (rput_n l[i].n 4 (by omega) (by show l[i].n.toNat < 4294967296; omega) (by omega) (by omega)) ?_
        simp (config := {maxSteps := 4000000}) only [U_ref09_Leaf, islV_map (g := rowE) hlt (rowE_len _), rowE, f1, e3, reduceIte, reduceCtorEq, Nat.reduceEqDiff, Nat.reduceAdd, Int.reduceLT, Int.reduceLE, Int.reduceNeg, Int.reduceEq, Nat.reduceLT, Nat.reduceSub, Nat.reduceMul, Nat.reduceBEq, Nat.reduceLeDiff, Int.reduceBEq, Int.reduceBNe, Int.reduceToNat, ne_eq, implies_true, bA]
        refine callI (rput_n l[i].kd 1 (by omega) (by show l[i].kd.toNat < 256; omega) (by omega) (by omega)) ?_
        simp (config := {maxSteps := 4000000}) only [U_ref09_Leaf, islV_map (g := rowE) hlt (rowE_len _), rowE, f2, e3, reduceIte, reduceCtorEq, Nat.reduceEqDiff, Nat.reduceAdd, Int.reduceLT, Int.reduceLE, Int.reduceNeg, Int.reduceEq, Nat.reduceLT, Nat.reduceSub, Nat.reduceMul, Nat.reduceBEq, Nat.reduceLeDiff, Int.reduceBEq, Int.reduceBNe, Int.reduceToNat, ne_eq, implies_true, bA]
        refine callI (rput_n l[i].at_ 2 (by omega) (by show l[i].at_.toNat < 65536; omega) (by omega) (by omega)) ?_
        simp (config := {maxSteps := 4000000}) only [U_ref09_Leaf, islV_map (g := rowE) hlt (rowE_len _), rowE, f3, e3, reduceIte, reduceCtorEq, Nat.reduceEqDiff, Nat.reduceAdd, Int.reduceLT, Int.reduceLE, Int.reduceNeg, Int.reduceEq, Nat.reduceLT, Nat.reduceSub, Nat.reduceMul, Nat.reduceBEq, Nat.reduceLeDiff, Int.reduceBEq, Int.reduceBNe, Int.reduceToNat, ne_eq, implies_true, bA]
        exact ⟨i + 1, rfl, hlt, by omega⟩
      · have d : decide ((i : Int) < (l.length : Int)) = false := by simpa using hlt
        have : i = l.length := by omega
        subst this
        simp (config := {maxSteps := 4000000}) only [U_ref09_Leaf, d, accG_all, reduceIte, reduceCtorEq, Nat.reduceEqDiff, Nat.reduceAdd, Int.reduceLT, Int.reduceLE, Int.reduceNeg, Int.reduceEq, Nat.reduceLT, Nat.reduceSub, Nat.reduceMul, Nat.reduceBEq, Nat.reduceLeDiff, Int.reduceBEq, Int.reduceBNe, Int.reduceToNat, ne_eq, implies_true, bA]
theorem rReadLeaf_spec (s : List UInt8) (hs : s.length ≤ 100000) : PCall Try.prog 14 [.str s] (.tup [.slc ((readG entE exAt 10 leafB s).1.map rowE), .int .i64 (readG entE exAt 10 leafB s).2]) := by
  refine pcall_go Try.func14 comp_ref09_ReadLeaf ?_
  simp (config := {maxSteps := 4000000}) only [U_ref09_ReadLeaf, reduceIte, reduceCtorEq, Nat.reduceEqDiff, Nat.reduceAdd, Int.reduceLT, Int.reduceLE, Int.reduceNeg, Int.reduceEq, Nat.reduceLT, Nat.reduceSub, Nat.reduceMul, Nat.reduceBEq, Nat.reduceLeDiff, Int.reduceBEq, Int.reduceBNe, Int.reduceToNat, ne_eq, implies_true, bA]
  refine loopF (fun i : Nat => ⟨ofL [(0, .str s), (4, .osl 0 0 i), (5, .int .i64 ((1 + 10 * i : Nat) : Int))], [.list 4 ((outG exAt 10 s i).map rowE)]⟩) (fun i => i ≤ manyG 10 s) (fun i => manyG 10 s - i) 0 ?_ (Nat.zero_le _) ?_
  · simp (config := {maxSteps := 4000000}) only [U_ref09_ReadLeaf, reduceIte, reduceCtorEq, Nat.reduceEqDiff, Nat.reduceAdd, Int.reduceLT, Int.reduceLE, Int.reduceNeg, Int.reduceEq, Nat.reduceLT, Nat.reduceSub, Nat.reduceMul, Nat.reduceBEq, Nat.reduceLeDiff, Int.reduceBEq, Int.reduceBNe, Int.reduceToNat, ne_eq, implies_true, bA]
    all_goals rfl
  · intro i hi
    have hmany : manyG 10 s = min 8 ((s.length + 10 - 2) / 10) := rfl
    have hro : rowsO (some (AObj.list 4 ((outG exAt 10 s i).map rowE))) 0 i = some ((outG exAt 10 s i).map rowE) := rowsO_all (by simp [outG_len])
    have hrl : ((outG exAt 10 s i).map rowE).length = i := by simp [outG_len]
    by_cases hlt : i < manyG 10 s
    · have d1 : decide (((1 + 10 * i : Nat) : Int) < (s.length : Int)) = true := by simp only [decide_eq_true_eq]; omega
      have d2 : decide ((i : Int) < 8) = true := by simp only [decide_eq_true_eq]; omega
      have ek : IntKind.i64.wrap (((1 + 10 * i : Nat) : Int) + 10) = ((1 + 10 * (i + 1) : Nat) : Int) := by rw [wrapI (by omega) (by omega)]; omega
      have a3 : IntKind.i64.wrap (((1 + 10 * i : Nat) : Int) + 3) = ((1 + 10 * i + 3 : Nat) : Int) := by rw [wrapI (by omega) (by omega)]; omega
      have a7 : IntKind.i64.wrap (((1 + 10 * i : Nat) : Int) + 7) = ((1 + 10 * i + 7 : Nat) : Int) := by rw [wrapI (by omega) (by omega)]; omega
      have a8 : IntKind.i64.wrap (((1 + 10 * i : Nat) : Int) + 8) = ((1 + 10 * i + 8 : Nat) : Int) := by rw [wrapI (by omega) (by omega)]; omega
      have hsp : exAt s (1 + 10 * i) = ⟨gS s (1 + 10 * i) 3, gS s (1 + 10 * i + 3) 4, gS s (1 + 10 * i + 7) 1, gS s (1 + 10 * i + 8) 2⟩ := rfl
      have hsucc := outG_succ (p := exAt) (k := 10) s i
      have hol := outG_len (p := exAt) (k := 10) s i
      have ha : ∀ ob nw, appO (AObj.list 4 ((outG exAt 10 s i).map rowE) :: ob) [] nw 4 (.osl 0 0 i) (some [[.int .i64 (gS s (1 + 10 * i) 3), .int .i64 (gS s (1 + 10 * i + 3) 4), .int .i64 (gS s (1 + 10 * i + 7) 1), .int .i64 (gS s (1 + 10 * i + 8) 2)]]) = some (.osl 0 0 (i + 1), AObj.list 4 ((outG exAt 10 s (i + 1)).map rowE) :: ob) := fun ob nw => by
        have := app_map (ob := AObj.list 4 ((outG exAt 10 s i).map rowE) :: ob) (fb := []) (nw := nw) (o := 0) (n := i) (e := 4) (g := rowE) (l := outG exAt 10 s i) (m := [exAt s (1 + 10 * i)]) rfl rfl hol.symm (by omega) (by simp) rowE_len
        rw [hsucc]; rw [hsp] at this ⊢
        exact this
      simp (config := {maxSteps := 4000000}) only [U_ref09_ReadLeaf, hro, hrl, d1, d2, reduceIte, reduceCtorEq, Nat.reduceEqDiff, Nat.reduceAdd, Int.reduceLT, Int.reduceLE, Int.reduceNeg, Int.reduceEq, Nat.reduceLT, Nat.reduceSub, Nat.reduceMul, Nat.reduceBEq, Nat.reduceLeDiff, Int.reduceBEq, Int.reduceBNe, Int.reduceToNat, ne_eq, implies_true, bA]
      refine callI (rget_n s (1 + 10 * i) 3 (by omega) (by omega) (by omega) (by omega)) ?_
      simp (config := {maxSteps := 4000000}) only [U_ref09_ReadLeaf, a3, reduceIte, reduceCtorEq, Nat.reduceEqDiff, Nat.reduceAdd, Int.reduceLT, Int.reduceLE, Int.reduceNeg, Int.reduceEq, Nat.reduceLT, Nat.reduceSub, Nat.reduceMul, Nat.reduceBEq, Nat.reduceLeDiff, Int.reduceBEq, Int.reduceBNe, Int.reduceToNat, ne_eq, implies_true, bA]
      refine callI (rget_n s (1 + 10 * i + 3) 4 (by omega) (by omega) (by omega) (by omega)) ?_
      simp (config := {maxSteps := 4000000}) only [U_ref09_ReadLeaf, a7, reduceIte, reduceCtorEq, Nat.reduceEqDiff, Nat.reduceAdd, Int.reduceLT, Int.reduceLE, Int.reduceNeg, Int.reduceEq, Nat.reduceLT, Nat.reduceSub, Nat.reduceMul, Nat.reduceBEq, Nat.reduceLeDiff, Int.reduceBEq, Int.reduceBNe, Int.reduceToNat, ne_eq, implies_true, bA]
      refine callI (rget_n s (1 + 10 * i + 7) 1 (by omega) (by omega) (by omega) (by omega)) ?_
      simp (config := {maxSteps := 4000000}) only [U_ref09_ReadLeaf, a8, reduceIte, reduceCtorEq, Nat.reduceEqDiff, Nat.reduceAdd, Int.reduceLT, Int.reduceLE, Int.reduceNeg, Int.reduceEq, Nat.reduceLT, Nat.reduceSub, Nat.reduceMul, Nat.reduceBEq, Nat.reduceLeDiff, Int.reduceBEq, Int.reduceBNe, Int.reduceToNat, ne_eq, implies_true, bA]
      refine callI (rget_n s (1 + 10 * i + 8) 2 (by omega) (by omega) (by omega) (by omega)) ?_
      simp (config := {maxSteps := 4000000}) only [U_ref09_ReadLeaf, ha, ek, reduceIte, reduceCtorEq, Nat.reduceEqDiff, Nat.reduceAdd, Int.reduceLT, Int.reduceLE, Int.reduceNeg, Int.reduceEq, Nat.reduceLT, Nat.reduceSub, Nat.reduceMul, Nat.reduceBEq, Nat.reduceLeDiff, Int.reduceBEq, Int.reduceBNe, Int.reduceToNat, ne_eq, implies_true, bA]
      exact ⟨i + 1, rfl, hlt, by omega⟩
    · have hin : i = manyG 10 s := by omega
      subst hin
      have hcase : decide (((1 + 10 * manyG 10 s : Nat) : Int) < (s.length : Int)) = false ∨ (decide (((1 + 10 * manyG 10 s : Nat) : Int) < (s.length : Int)) = true ∧ decide ((manyG 10 s : Int) < 8) = false) := by
        by_cases h : 1 + 10 * manyG 10 s < s.length
        · right; refine ⟨by simp only [decide_eq_true_eq]; omega, by simp only [decide_eq_false_iff_not]; omega⟩
        · left; simp only [decide_eq_false_iff_not]; omega
      have h8m : manyG 10 s ≤ 8 := by omega
      rcases hcase with d1 | ⟨d1, d2⟩
      · simp (config := {maxSteps := 4000000}) only [U_ref09_ReadLeaf, hro, hrl, d1, reduceIte, reduceCtorEq, Nat.reduceEqDiff, Nat.reduceAdd, Int.reduceLT, Int.reduceLE, Int.reduceNeg, Int.reduceEq, Nat.reduceLT, Nat.reduceSub, Nat.reduceMul, Nat.reduceBEq, Nat.reduceLeDiff, Int.reduceBEq, Int.reduceBNe, Int.reduceToNat, ne_eq, implies_true, bA]
        refine callS (rLeaf_spec (outG exAt 10 s (manyG 10 s)) (by rw [outG_len]; omega)) rfl ?_
        by_cases hgood : goodG entE exAt 10 leafB s
        · have hw : writeG entE leafB (outG exAt 10 s (manyG 10 s)) = (s, 0) := by rw [writeG, if_pos hgood.1, hgood.2]
          rw [hw, readG_yes hgood]
          have d3 : (s == s) = true := by simp
          simp (config := {maxSteps := 4000000}) only [U_ref09_ReadLeaf, d3, hro, reduceIte, reduceCtorEq, Nat.reduceEqDiff, Nat.reduceAdd, Int.reduceLT, Int.reduceLE, Int.reduceNeg, Int.reduceEq, Nat.reduceLT, Nat.reduceSub, Nat.reduceMul, Nat.reduceBEq, Nat.reduceLeDiff, Int.reduceBEq, Int.reduceBNe, Int.reduceToNat, ne_eq, implies_true, bA]
        · rw [readG_no hgood]
          cases hmq : leafB (outG exAt 10 s (manyG 10 s)) with
          | false =>
            have hw : writeG entE leafB (outG exAt 10 s (manyG 10 s)) = ([], 1) := by rw [writeG, if_neg (by rw [hmq]; simp)]
            rw [hw]
            simp (config := {maxSteps := 4000000}) only [U_ref09_ReadLeaf, reduceIte, reduceCtorEq, Nat.reduceEqDiff, Nat.reduceAdd, Int.reduceLT, Int.reduceLE, Int.reduceNeg, Int.reduceEq, Nat.reduceLT, Nat.reduceSub, Nat.reduceMul, Nat.reduceBEq, Nat.reduceLeDiff, Int.reduceBEq, Int.reduceBNe, Int.reduceToNat, ne_eq, implies_true, bA]
          | true =>
            have hw : writeG entE leafB (outG exAt 10 s (manyG 10 s)) = (recG entE (outG exAt 10 s (manyG 10 s)), 0) := by rw [writeG, if_pos hmq]
            have d3 : (recG entE (outG exAt 10 s (manyG 10 s)) == s) = false := by
              rw [beq_eq_false_iff_ne]; exact fun h => hgood ⟨hmq, h⟩
            rw [hw]
            simp (config := {maxSteps := 4000000}) only [U_ref09_ReadLeaf, d3, reduceIte, reduceCtorEq, Nat.reduceEqDiff, Nat.reduceAdd, Int.reduceLT, Int.reduceLE, Int.reduceNeg, Int.reduceEq, Nat.reduceLT, Nat.reduceSub, Nat.reduceMul, Nat.reduceBEq, Nat.reduceLeDiff, Int.reduceBEq, Int.reduceBNe, Int.reduceToNat, ne_eq, implies_true, bA]
      · simp (config := {maxSteps := 4000000}) only [U_ref09_ReadLeaf, hro, hrl, d1, d2, reduceIte, reduceCtorEq, Nat.reduceEqDiff, Nat.reduceAdd, Int.reduceLT, Int.reduceLE, Int.reduceNeg, Int.reduceEq, Nat.reduceLT, Nat.reduceSub, Nat.reduceMul, Nat.reduceBEq, Nat.reduceLeDiff, Int.reduceBEq, Int.reduceBNe, Int.reduceToNat, ne_eq, implies_true, bA]
        refine callS (rLeaf_spec (outG exAt 10 s (manyG 10 s)) (by rw [outG_len]; omega)) rfl ?_
        by_cases hgood : goodG entE exAt 10 leafB s
        · have hw : writeG entE leafB (outG exAt 10 s (manyG 10 s)) = (s, 0) := by rw [writeG, if_pos hgood.1, hgood.2]
          rw [hw, readG_yes hgood]
          have d3 : (s == s) = true := by simp
          simp (config := {maxSteps := 4000000}) only [U_ref09_ReadLeaf, d3, hro, reduceIte, reduceCtorEq, Nat.reduceEqDiff, Nat.reduceAdd, Int.reduceLT, Int.reduceLE, Int.reduceNeg, Int.reduceEq, Nat.reduceLT, Nat.reduceSub, Nat.reduceMul, Nat.reduceBEq, Nat.reduceLeDiff, Int.reduceBEq, Int.reduceBNe, Int.reduceToNat, ne_eq, implies_true, bA]
        · rw [readG_no hgood]
          cases hmq : leafB (outG exAt 10 s (manyG 10 s)) with
          | false =>
            have hw : writeG entE leafB (outG exAt 10 s (manyG 10 s)) = ([], 1) := by rw [writeG, if_neg (by rw [hmq]; simp)]
            rw [hw]
            simp (config := {maxSteps := 4000000}) only [U_ref09_ReadLeaf, reduceIte, reduceCtorEq, Nat.reduceEqDiff, Nat.reduceAdd, Int.reduceLT, Int.reduceLE, Int.reduceNeg, Int.reduceEq, Nat.reduceLT, Nat.reduceSub, Nat.reduceMul, Nat.reduceBEq, Nat.reduceLeDiff, Int.reduceBEq, Int.reduceBNe, Int.reduceToNat, ne_eq, implies_true, bA]
          | true =>
            have hw : writeG entE leafB (outG exAt 10 s (manyG 10 s)) = (recG entE (outG exAt 10 s (manyG 10 s)), 0) := by rw [writeG, if_pos hmq]
            have d3 : (recG entE (outG exAt 10 s (manyG 10 s)) == s) = false := by
              rw [beq_eq_false_iff_ne]; exact fun h => hgood ⟨hmq, h⟩
            rw [hw]
            simp (config := {maxSteps := 4000000}) only [U_ref09_ReadLeaf, d3, reduceIte, reduceCtorEq, Nat.reduceEqDiff, Nat.reduceAdd, Int.reduceLT, Int.reduceLE, Int.reduceNeg, Int.reduceEq, Nat.reduceLT, Nat.reduceSub, Nat.reduceMul, Nat.reduceBEq, Nat.reduceLeDiff, Int.reduceBEq, Int.reduceBNe, Int.reduceToNat, ne_eq, implies_true, bA]
theorem eq_Ext (a b : Xt) : (a.fr == b.fr && (a.n == b.n && (a.kd == b.kd && (a.at_ == b.at_)))) = decide (a = b) := by
  rw [Bool.eq_iff_iff]
  cases a; cases b
  simp
theorem sameExt_spec (a b : List Xt) (ha : a.length ≤ 9223372036854775807) (hb : b.length ≤ 9223372036854775807) : PCall Try.prog 17 [.slc (a.map rowE), .slc (b.map rowE)] (.bool (decide (a = b))) := by
  refine pcall_go Try.func17 comp_ref09_SameExts ?_
  by_cases hl : a.length = b.length
  · have d0 : ((a.length : Int) != (b.length : Int)) = false := by simp only [bne_eq_false_iff_eq]; omega
    simp (config := {maxSteps := 4000000}) only [U_ref09_SameExts, d0, reduceIte, reduceCtorEq, Nat.reduceEqDiff, Nat.reduceAdd, Int.reduceLT, Int.reduceLE, Int.reduceNeg, Int.reduceEq, Nat.reduceLT, Nat.reduceSub, Nat.reduceMul, Nat.reduceBEq, Nat.reduceLeDiff, Int.reduceBEq, Int.reduceBNe, Int.reduceToNat, ne_eq, implies_true, bA]
    refine loopF (fun i : Nat => ⟨ofL [(0, .slc (a.map rowE)), (1, .slc (b.map rowE)), (5, .int .i64 i)], []⟩) (fun i => i ≤ a.length ∧ ∀ j (h1 : j < a.length) (h2 : j < b.length), j < i → a[j] = b[j]) (fun i => a.length - i) 0 ?_ ⟨Nat.zero_le _, fun j _ _ h => absurd h (by omega)⟩ ?_
    · simp (config := {maxSteps := 4000000}) only [U_ref09_SameExts, reduceIte, reduceCtorEq, Nat.reduceEqDiff, Nat.reduceAdd, Int.reduceLT, Int.reduceLE, Int.reduceNeg, Int.reduceEq, Nat.reduceLT, Nat.reduceSub, Nat.reduceMul, Nat.reduceBEq, Nat.reduceLeDiff, Int.reduceBEq, Int.reduceBNe, Int.reduceToNat, ne_eq, implies_true, bA]
      all_goals rfl
    · intro i ⟨hi, hj⟩
      by_cases h : i < a.length
      · have d : decide ((i : Int) < (a.length : Int)) = true := by simpa using h
        have h' : i < b.length := by omega
        have e1 : IntKind.i64.wrap ((i : Int) + 1) = ((i + 1 : Nat) : Int) := by rw [wrapI (by omega) (by omega)]; omega
        by_cases he : a[i] = b[i]
        · have dq := decide_eq_true he
          rw [← eq_Ext] at dq
          simp (config := {maxSteps := 4000000}) only [U_ref09_SameExts, d, islV_map (g := rowE) h (rowE_len _), islV_map (g := rowE) h' (rowE_len _), rowE, dq, e1, reduceIte, reduceCtorEq, Nat.reduceEqDiff, Nat.reduceAdd, Int.reduceLT, Int.reduceLE, Int.reduceNeg, Int.reduceEq, Nat.reduceLT, Nat.reduceSub, Nat.reduceMul, Nat.reduceBEq, Nat.reduceLeDiff, Int.reduceBEq, Int.reduceBNe, Int.reduceToNat, ne_eq, implies_true, bA]
          refine ⟨i + 1, rfl, ⟨h, fun j h1 h2 hlt => ?_⟩, by omega⟩
          by_cases e : j = i
          · subst e; exact he
          · exact hj j h1 h2 (by omega)
        · have dq := decide_eq_false he
          rw [← eq_Ext] at dq
          have hne : a ≠ b := fun e => he (by subst e; rfl)
          simp (config := {maxSteps := 4000000}) only [U_ref09_SameExts, d, islV_map (g := rowE) h (rowE_len _), islV_map (g := rowE) h' (rowE_len _), rowE, dq, reduceIte, reduceCtorEq, Nat.reduceEqDiff, Nat.reduceAdd, Int.reduceLT, Int.reduceLE, Int.reduceNeg, Int.reduceEq, Nat.reduceLT, Nat.reduceSub, Nat.reduceMul, Nat.reduceBEq, Nat.reduceLeDiff, Int.reduceBEq, Int.reduceBNe, Int.reduceToNat, ne_eq, implies_true, bA]
          simp [hne]
      · have d : decide ((i : Int) < (a.length : Int)) = false := by simpa using h
        have hab : a = b := List.ext_getElem hl fun j h1 h2 => hj j h1 h2 (by omega)
        simp (config := {maxSteps := 4000000}) only [U_ref09_SameExts, d, reduceIte, reduceCtorEq, Nat.reduceEqDiff, Nat.reduceAdd, Int.reduceLT, Int.reduceLE, Int.reduceNeg, Int.reduceEq, Nat.reduceLT, Nat.reduceSub, Nat.reduceMul, Nat.reduceBEq, Nat.reduceLeDiff, Int.reduceBEq, Int.reduceBNe, Int.reduceToNat, ne_eq, implies_true, bA]
        simp [hab]
  · have d0 : ((a.length : Int) != (b.length : Int)) = true := by simp only [bne_iff_ne, ne_eq]; omega
    have hne : a ≠ b := fun e => hl (by rw [e])
    simp (config := {maxSteps := 4000000}) only [U_ref09_SameExts, d0, reduceIte, reduceCtorEq, Nat.reduceEqDiff, Nat.reduceAdd, Int.reduceLT, Int.reduceLE, Int.reduceNeg, Int.reduceEq, Nat.reduceLT, Nat.reduceSub, Nat.reduceMul, Nat.reduceBEq, Nat.reduceLeDiff, Int.reduceBEq, Int.reduceBNe, Int.reduceToNat, ne_eq, implies_true, bA]
    simp [hne]
theorem refsExt_spec (l : List Xt) (hl : l.length ≤ 16777216) : PCall Try.prog 12 [.slc (l.map rowE)] (.own 4 (l.map rowE)) := by
  refine pcall_go Try.func12 comp_law07_Refs ?_
  simp (config := {maxSteps := 4000000}) only [U_law07_Refs, reduceIte, reduceCtorEq, Nat.reduceEqDiff, Nat.reduceAdd, Int.reduceLT, Int.reduceLE, Int.reduceNeg, Int.reduceEq, Nat.reduceLT, Nat.reduceSub, Nat.reduceMul, Nat.reduceBEq, Nat.reduceLeDiff, Int.reduceBEq, Int.reduceBNe, Int.reduceToNat, ne_eq, implies_true, bA]
  refine loopF (fun i : Nat => ⟨ofL [(0, .slc (l.map rowE)), (3, .osl 0 0 i), (4, .int .i64 i)], [.list 4 ((l.take i).map rowE)]⟩) (fun i => i ≤ l.length) (fun i => l.length - i) 0 ?_ (Nat.zero_le _) ?_
  · simp (config := {maxSteps := 4000000}) only [U_law07_Refs, reduceIte, reduceCtorEq, Nat.reduceEqDiff, Nat.reduceAdd, Int.reduceLT, Int.reduceLE, Int.reduceNeg, Int.reduceEq, Nat.reduceLT, Nat.reduceSub, Nat.reduceMul, Nat.reduceBEq, Nat.reduceLeDiff, Int.reduceBEq, Int.reduceBNe, Int.reduceToNat, ne_eq, implies_true, bA]
    all_goals rfl
  · intro i hi
    by_cases h : i < l.length
    · have d : decide ((i : Int) < (l.length : Int)) = true := by simpa using h
      have e1 : IntKind.i64.wrap ((i : Int) + 1) = ((i + 1 : Nat) : Int) := by rw [wrapI (by omega) (by omega)]; omega
      have hti : (l.take i).length = i := by simp; omega
      have ha : appO [AObj.list 4 ((l.take i).map rowE)] [] none 4 (.osl 0 0 i) (some [[.int .i64 l[i].fr, .int .i64 l[i].n, .int .i64 l[i].kd, .int .i64 l[i].at_]]) = some (.osl 0 0 (i + 1), [AObj.list 4 ((l.take (i + 1)).map rowE)]) := by
        have := app_map (ob := [AObj.list 4 ((l.take i).map rowE)]) (fb := []) (nw := none) (o := 0) (n := i) (e := 4) (g := rowE) (l := l.take i) (m := [l[i]]) rfl rfl hti.symm (by omega) (by simp) rowE_len
        rw [List.take_succ_eq_append_getElem h]
        exact this
      simp (config := {maxSteps := 4000000}) only [U_law07_Refs, d, islV_map (g := rowE) h (rowE_len _), rowE, ha, e1, reduceIte, reduceCtorEq, Nat.reduceEqDiff, Nat.reduceAdd, Int.reduceLT, Int.reduceLE, Int.reduceNeg, Int.reduceEq, Nat.reduceLT, Nat.reduceSub, Nat.reduceMul, Nat.reduceBEq, Nat.reduceLeDiff, Int.reduceBEq, Int.reduceBNe, Int.reduceToNat, ne_eq, implies_true, bA]
      exact ⟨i + 1, rfl, h, by omega⟩
    · have d : decide ((i : Int) < (l.length : Int)) = false := by simpa using h
      have : i = l.length := by omega
      subst this
      simp (config := {maxSteps := 4000000}) only [U_law07_Refs, d, List.take_length, retO_list (e := 4) (rows := l.map rowE) (n := l.length) (by simp), reduceIte, reduceCtorEq, Nat.reduceEqDiff, Nat.reduceAdd, Int.reduceLT, Int.reduceLE, Int.reduceNeg, Int.reduceEq, Nat.reduceLT, Nat.reduceSub, Nat.reduceMul, Nat.reduceBEq, Nat.reduceLeDiff, Int.reduceBEq, Int.reduceBNe, Int.reduceToNat, ne_eq, implies_true, bA]
theorem Inner_spec (l : List Kd) (hm : l.length ≤ 9223372036854775807) : PCall Try.prog 20 [.slc (l.map rowK)] (.tup [.str (writeG entK kidsB l).1, .int .i64 (writeG entK kidsB l).2]) := by
  refine pcall_go Try.func20 comp_leaf_Inner ?_
  simp (config := {maxSteps := 4000000}) only [U_leaf_Inner, reduceIte, reduceCtorEq, Nat.reduceEqDiff, Nat.reduceAdd, Int.reduceLT, Int.reduceLE, Int.reduceNeg, Int.reduceEq, Nat.reduceLT, Nat.reduceSub, Nat.reduceMul, Nat.reduceBEq, Nat.reduceLeDiff, Int.reduceBEq, Int.reduceBNe, Int.reduceToNat, ne_eq, implies_true, bA]
  refine callI (kids_spec l hm) ?_
  cases h : kidsB l with
  | false =>
    have hw : writeG entK kidsB l = ([], 1) := by rw [writeG, if_neg (by rw [h]; simp)]
    rw [hw]
    simp (config := {maxSteps := 4000000}) only [U_leaf_Inner, reduceIte, reduceCtorEq, Nat.reduceEqDiff, Nat.reduceAdd, Int.reduceLT, Int.reduceLE, Int.reduceNeg, Int.reduceEq, Nat.reduceLT, Nat.reduceSub, Nat.reduceMul, Nat.reduceBEq, Nat.reduceLeDiff, Int.reduceBEq, Int.reduceBNe, Int.reduceToNat, ne_eq, implies_true, bA]
  | true =>
    have hw : writeG entK kidsB l = (recG entK l, 0) := by rw [writeG, if_pos h]
    rw [hw]
    simp (config := {maxSteps := 4000000}) only [U_leaf_Inner, reduceIte, reduceCtorEq, Nat.reduceEqDiff, Nat.reduceAdd, Int.reduceLT, Int.reduceLE, Int.reduceNeg, Int.reduceEq, Nat.reduceLT, Nat.reduceSub, Nat.reduceMul, Nat.reduceBEq, Nat.reduceLeDiff, Int.reduceBEq, Int.reduceBNe, Int.reduceToNat, ne_eq, implies_true, bA]
    refine callI kidWidths_spec ?_
    simp (config := {maxSteps := 4000000}) only [U_leaf_Inner, reduceIte, reduceCtorEq, Nat.reduceEqDiff, Nat.reduceAdd, Int.reduceLT, Int.reduceLE, Int.reduceNeg, Int.reduceEq, Nat.reduceLT, Nat.reduceSub, Nat.reduceMul, Nat.reduceBEq, Nat.reduceLeDiff, Int.reduceBEq, Int.reduceBNe, Int.reduceToNat, ne_eq, implies_true, bA]
    refine callI (writeKid_spec l (by have := (kidsB_iff.1 h).2.1; omega) (kids_fit' h)) ?_
    simp (config := {maxSteps := 4000000}) only [U_leaf_Inner, reduceIte, reduceCtorEq, Nat.reduceEqDiff, Nat.reduceAdd, Int.reduceLT, Int.reduceLE, Int.reduceNeg, Int.reduceEq, Nat.reduceLT, Nat.reduceSub, Nat.reduceMul, Nat.reduceBEq, Nat.reduceLeDiff, Int.reduceBEq, Int.reduceBNe, Int.reduceToNat, ne_eq, implies_true, bA]
theorem ReadInner_spec (s : List UInt8) (hs : s.length ≤ 1000000) : PCall Try.prog 15 [.str s] (.tup [.slc ((readG entK kdAt 5 kidsB s).1.map rowK), .int .i64 (readG entK kdAt 5 kidsB s).2]) := by
  refine pcall_go Try.func15 comp_leaf_ReadInner ?_
  simp (config := {maxSteps := 4000000}) only [U_leaf_ReadInner, reduceIte, reduceCtorEq, Nat.reduceEqDiff, Nat.reduceAdd, Int.reduceLT, Int.reduceLE, Int.reduceNeg, Int.reduceEq, Nat.reduceLT, Nat.reduceSub, Nat.reduceMul, Nat.reduceBEq, Nat.reduceLeDiff, Int.reduceBEq, Int.reduceBNe, Int.reduceToNat, ne_eq, implies_true, bA]
  refine callI kidWidths_spec ?_
  simp (config := {maxSteps := 4000000}) only [U_leaf_ReadInner, reduceIte, reduceCtorEq, Nat.reduceEqDiff, Nat.reduceAdd, Int.reduceLT, Int.reduceLE, Int.reduceNeg, Int.reduceEq, Nat.reduceLT, Nat.reduceSub, Nat.reduceMul, Nat.reduceBEq, Nat.reduceLeDiff, Int.reduceBEq, Int.reduceBNe, Int.reduceToNat, ne_eq, implies_true, bA]
  refine callI (readKid_spec (fun l hl => kids_spec l (by omega)) s hs) ?_
  simp (config := {maxSteps := 4000000}) only [U_leaf_ReadInner, reduceIte, reduceCtorEq, Nat.reduceEqDiff, Nat.reduceAdd, Int.reduceLT, Int.reduceLE, Int.reduceNeg, Int.reduceEq, Nat.reduceLT, Nat.reduceSub, Nat.reduceMul, Nat.reduceBEq, Nat.reduceLeDiff, Int.reduceBEq, Int.reduceBNe, Int.reduceToNat, ne_eq, implies_true, bA]
theorem rInner_spec (l : List Kd) (hm : l.length ≤ 9223372036854775807) : PCall Try.prog 21 [.slc (l.map rowK)] (.tup [.str (writeG entK kidsB l).1, .int .i64 (writeG entK kidsB l).2]) := by
  refine pcall_go Try.func21 comp_ref09_Inner ?_
  simp (config := {maxSteps := 4000000}) only [U_ref09_Inner, reduceIte, reduceCtorEq, Nat.reduceEqDiff, Nat.reduceAdd, Int.reduceLT, Int.reduceLE, Int.reduceNeg, Int.reduceEq, Nat.reduceLT, Nat.reduceSub, Nat.reduceMul, Nat.reduceBEq, Nat.reduceLeDiff, Int.reduceBEq, Int.reduceBNe, Int.reduceToNat, ne_eq, implies_true, bA]
  refine callI (rkids_spec l hm) ?_
  cases h : kidsB l with
  | false =>
    have hw : writeG entK kidsB l = ([], 1) := by rw [writeG, if_neg (by rw [h]; simp)]
    rw [hw]
    simp (config := {maxSteps := 4000000}) only [U_ref09_Inner, reduceIte, reduceCtorEq, Nat.reduceEqDiff, Nat.reduceAdd, Int.reduceLT, Int.reduceLE, Int.reduceNeg, Int.reduceEq, Nat.reduceLT, Nat.reduceSub, Nat.reduceMul, Nat.reduceBEq, Nat.reduceLeDiff, Int.reduceBEq, Int.reduceBNe, Int.reduceToNat, ne_eq, implies_true, bA]
  | true =>
    have hw : writeG entK kidsB l = (recG entK l, 0) := by rw [writeG, if_pos h]
    have h8 := (kidsB_iff.1 h).2.1
    rw [hw]
    simp (config := {maxSteps := 4000000}) only [U_ref09_Inner, reduceIte, reduceCtorEq, Nat.reduceEqDiff, Nat.reduceAdd, Int.reduceLT, Int.reduceLE, Int.reduceNeg, Int.reduceEq, Nat.reduceLT, Nat.reduceSub, Nat.reduceMul, Nat.reduceBEq, Nat.reduceLeDiff, Int.reduceBEq, Int.reduceBNe, Int.reduceToNat, ne_eq, implies_true, bA]
    refine callI (rput_n (l.length : Int) 1 (by omega) (by show l.length < 256; omega) (by omega) (by omega)) ?_
    rw [Int.toNat_natCast, ← accG_0 (ent := entK) l]
    simp (config := {maxSteps := 4000000}) only [U_ref09_Inner, reduceIte, reduceCtorEq, Nat.reduceEqDiff, Nat.reduceAdd, Int.reduceLT, Int.reduceLE, Int.reduceNeg, Int.reduceEq, Nat.reduceLT, Nat.reduceSub, Nat.reduceMul, Nat.reduceBEq, Nat.reduceLeDiff, Int.reduceBEq, Int.reduceBNe, Int.reduceToNat, ne_eq, implies_true, bA]
    refine loopF (fun i : Nat => ⟨ofL [(0, .slc (l.map rowK)), (4, .str (accG entK l i)), (5, .int .i64 i)], []⟩) (fun i => i ≤ l.length) (fun i => l.length - i) 0 ?_ (Nat.zero_le _) ?_
    · simp (config := {maxSteps := 4000000}) only [U_ref09_Inner, reduceIte, reduceCtorEq, Nat.reduceEqDiff, Nat.reduceAdd, Int.reduceLT, Int.reduceLE, Int.reduceNeg, Int.reduceEq, Nat.reduceLT, Nat.reduceSub, Nat.reduceMul, Nat.reduceBEq, Nat.reduceLeDiff, Int.reduceBEq, Int.reduceBNe, Int.reduceToNat, ne_eq, implies_true, bA]
      all_goals rfl
    · intro i hi
      by_cases hlt : i < l.length
      · have d : decide ((i : Int) < (l.length : Int)) = true := by simpa using hlt
        have e3 : IntKind.i64.wrap ((i : Int) + 1) = ((i + 1 : Nat) : Int) := by rw [wrapI (by omega) (by omega)]; omega
        obtain ⟨q1, q2, q3, q4⟩ := kids_fit' h _ (List.getElem_mem hlt)
        have hal := accG_len entK_len l i hi
        have hsucc := accG_succ (ent := entK) l i hlt
        have y0 : (leB 3 l[i].ky.toNat).length = 3 := leB_len _ _
        have y1 : (leB 2 l[i].at_.toNat).length = 2 := leB_len _ _
        have f0 : binS .add (accG entK l i) (leB 3 l[i].ky.toNat) = some (.str (accG entK l i ++ (leB 3 l[i].ky.toNat))) := by rw [binS_cat (by simp [y0]; omega)] <;> simp [List.append_assoc]
        have f1 : binS .add (accG entK l i ++ (leB 3 l[i].ky.toNat)) (leB 2 l[i].at_.toNat) = some (.str (accG entK l (i + 1))) := by rw [binS_cat (by simp [y0, y1]; omega), hsucc]; simp [entK, List.append_assoc]
        simp (config := {maxSteps := 4000000}) only [U_ref09_Inner, d, islV_map (g := rowK) hlt (rowK_len _), rowK, reduceIte, reduceCtorEq, Nat.reduceEqDiff, Nat.reduceAdd, Int.reduceLT, Int.reduceLE, Int.reduceNeg, Int.reduceEq, Nat.reduceLT, Nat.reduceSub, Nat.reduceMul, Nat.reduceBEq, Nat.reduceLeDiff, Int.reduceBEq, Int.reduceBNe, Int.reduceToNat, ne_eq, implies_true, bA]
        refine callI (rput_n l[i].ky 3 (by omega) (by show l[i].ky.toNat < 16777216; omega) (by omega) (by omega)) ?_
        simp (config := {maxSteps := 4000000}) only [U_ref09_Inner, islV_map (g := rowK) hlt (rowK_len _), rowK, f0, e3, reduceIte, reduceCtorEq, Nat.reduceEqDiff, Nat.reduceAdd, Int.reduceLT, Int.reduceLE, Int.reduceNeg, Int.reduceEq, Nat.reduceLT, Nat.reduceSub, Nat.reduceMul, Nat.reduceBEq, Nat.reduceLeDiff, Int.reduceBEq, Int.reduceBNe, Int.reduceToNat, ne_eq, implies_true, bA]
        refine callI (rput_n l[i].at_ 2 (by omega) (by show l[i].at_.toNat < 65536; omega) (by omega) (by omega)) ?_
        simp (config := {maxSteps := 4000000}) only [U_ref09_Inner, islV_map (g := rowK) hlt (rowK_len _), rowK, f1, e3, reduceIte, reduceCtorEq, Nat.reduceEqDiff, Nat.reduceAdd, Int.reduceLT, Int.reduceLE, Int.reduceNeg, Int.reduceEq, Nat.reduceLT, Nat.reduceSub, Nat.reduceMul, Nat.reduceBEq, Nat.reduceLeDiff, Int.reduceBEq, Int.reduceBNe, Int.reduceToNat, ne_eq, implies_true, bA]
        exact ⟨i + 1, rfl, hlt, by omega⟩
      · have d : decide ((i : Int) < (l.length : Int)) = false := by simpa using hlt
        have : i = l.length := by omega
        subst this
        simp (config := {maxSteps := 4000000}) only [U_ref09_Inner, d, accG_all, reduceIte, reduceCtorEq, Nat.reduceEqDiff, Nat.reduceAdd, Int.reduceLT, Int.reduceLE, Int.reduceNeg, Int.reduceEq, Nat.reduceLT, Nat.reduceSub, Nat.reduceMul, Nat.reduceBEq, Nat.reduceLeDiff, Int.reduceBEq, Int.reduceBNe, Int.reduceToNat, ne_eq, implies_true, bA]
theorem rReadInner_spec (s : List UInt8) (hs : s.length ≤ 100000) : PCall Try.prog 16 [.str s] (.tup [.slc ((readG entK kdAt 5 kidsB s).1.map rowK), .int .i64 (readG entK kdAt 5 kidsB s).2]) := by
  refine pcall_go Try.func16 comp_ref09_ReadInner ?_
  simp (config := {maxSteps := 4000000}) only [U_ref09_ReadInner, reduceIte, reduceCtorEq, Nat.reduceEqDiff, Nat.reduceAdd, Int.reduceLT, Int.reduceLE, Int.reduceNeg, Int.reduceEq, Nat.reduceLT, Nat.reduceSub, Nat.reduceMul, Nat.reduceBEq, Nat.reduceLeDiff, Int.reduceBEq, Int.reduceBNe, Int.reduceToNat, ne_eq, implies_true, bA]
  refine loopF (fun i : Nat => ⟨ofL [(0, .str s), (4, .osl 0 0 i), (5, .int .i64 ((1 + 5 * i : Nat) : Int))], [.list 2 ((outG kdAt 5 s i).map rowK)]⟩) (fun i => i ≤ manyG 5 s) (fun i => manyG 5 s - i) 0 ?_ (Nat.zero_le _) ?_
  · simp (config := {maxSteps := 4000000}) only [U_ref09_ReadInner, reduceIte, reduceCtorEq, Nat.reduceEqDiff, Nat.reduceAdd, Int.reduceLT, Int.reduceLE, Int.reduceNeg, Int.reduceEq, Nat.reduceLT, Nat.reduceSub, Nat.reduceMul, Nat.reduceBEq, Nat.reduceLeDiff, Int.reduceBEq, Int.reduceBNe, Int.reduceToNat, ne_eq, implies_true, bA]
    all_goals rfl
  · intro i hi
    have hmany : manyG 5 s = min 8 ((s.length + 5 - 2) / 5) := rfl
    have hro : rowsO (some (AObj.list 2 ((outG kdAt 5 s i).map rowK))) 0 i = some ((outG kdAt 5 s i).map rowK) := rowsO_all (by simp [outG_len])
    have hrl : ((outG kdAt 5 s i).map rowK).length = i := by simp [outG_len]
    by_cases hlt : i < manyG 5 s
    · have d1 : decide (((1 + 5 * i : Nat) : Int) < (s.length : Int)) = true := by simp only [decide_eq_true_eq]; omega
      have d2 : decide ((i : Int) < 8) = true := by simp only [decide_eq_true_eq]; omega
      have ek : IntKind.i64.wrap (((1 + 5 * i : Nat) : Int) + 5) = ((1 + 5 * (i + 1) : Nat) : Int) := by rw [wrapI (by omega) (by omega)]; omega
      have a3 : IntKind.i64.wrap (((1 + 5 * i : Nat) : Int) + 3) = ((1 + 5 * i + 3 : Nat) : Int) := by rw [wrapI (by omega) (by omega)]; omega
      have hsp : kdAt s (1 + 5 * i) = ⟨gS s (1 + 5 * i) 3, gS s (1 + 5 * i + 3) 2⟩ := rfl
      have hsucc := outG_succ (p := kdAt) (k := 5) s i
      have hol := outG_len (p := kdAt) (k := 5) s i
      have ha : ∀ ob nw, appO (AObj.list 2 ((outG kdAt 5 s i).map rowK) :: ob) [] nw 2 (.osl 0 0 i) (some [[.int .i64 (gS s (1 + 5 * i) 3), .int .i64 (gS s (1 + 5 * i + 3) 2)]]) = some (.osl 0 0 (i + 1), AObj.list 2 ((outG kdAt 5 s (i + 1)).map rowK) :: ob) := fun ob nw => by
        have := app_map (ob := AObj.list 2 ((outG kdAt 5 s i).map rowK) :: ob) (fb := []) (nw := nw) (o := 0) (n := i) (e := 2) (g := rowK) (l := outG kdAt 5 s i) (m := [kdAt s (1 + 5 * i)]) rfl rfl hol.symm (by omega) (by simp) rowK_len
        rw [hsucc]; rw [hsp] at this ⊢
        exact this
      simp (config := {maxSteps := 4000000}) only [U_ref09_ReadInner, hro, hrl, d1, d2, reduceIte, reduceCtorEq, Nat.reduceEqDiff, Nat.reduceAdd, Int.reduceLT, Int.reduceLE, Int.reduceNeg, Int.reduceEq, Nat.reduceLT, Nat.reduceSub, Nat.reduceMul, Nat.reduceBEq, Nat.reduceLeDiff, Int.reduceBEq, Int.reduceBNe, Int.reduceToNat, ne_eq, implies_true, bA]
      refine callI (rget_n s (1 + 5 * i) 3 (by omega) (by omega) (by omega) (by omega)) ?_
      simp (config := {maxSteps := 4000000}) only [U_ref09_ReadInner, a3, reduceIte, reduceCtorEq, Nat.reduceEqDiff, Nat.reduceAdd, Int.reduceLT, Int.reduceLE, Int.reduceNeg, Int.reduceEq, Nat.reduceLT, Nat.reduceSub, Nat.reduceMul, Nat.reduceBEq, Nat.reduceLeDiff, Int.reduceBEq, Int.reduceBNe, Int.reduceToNat, ne_eq, implies_true, bA]
      refine callI (rget_n s (1 + 5 * i + 3) 2 (by omega) (by omega) (by omega) (by omega)) ?_
      simp (config := {maxSteps := 4000000}) only [U_ref09_ReadInner, ha, ek, reduceIte, reduceCtorEq, Nat.reduceEqDiff, Nat.reduceAdd, Int.reduceLT, Int.reduceLE, Int.reduceNeg, Int.reduceEq, Nat.reduceLT, Nat.reduceSub, Nat.reduceMul, Nat.reduceBEq, Nat.reduceLeDiff, Int.reduceBEq, Int.reduceBNe, Int.reduceToNat, ne_eq, implies_true, bA]
      exact ⟨i + 1, rfl, hlt, by omega⟩
    · have hin : i = manyG 5 s := by omega
      subst hin
      have hcase : decide (((1 + 5 * manyG 5 s : Nat) : Int) < (s.length : Int)) = false ∨ (decide (((1 + 5 * manyG 5 s : Nat) : Int) < (s.length : Int)) = true ∧ decide ((manyG 5 s : Int) < 8) = false) := by
        by_cases h : 1 + 5 * manyG 5 s < s.length
        · right; refine ⟨by simp only [decide_eq_true_eq]; omega, by simp only [decide_eq_false_iff_not]; omega⟩
        · left; simp only [decide_eq_false_iff_not]; omega
      have h8m : manyG 5 s ≤ 8 := by omega
      rcases hcase with d1 | ⟨d1, d2⟩
      · simp (config := {maxSteps := 4000000}) only [U_ref09_ReadInner, hro, hrl, d1, reduceIte, reduceCtorEq, Nat.reduceEqDiff, Nat.reduceAdd, Int.reduceLT, Int.reduceLE, Int.reduceNeg, Int.reduceEq, Nat.reduceLT, Nat.reduceSub, Nat.reduceMul, Nat.reduceBEq, Nat.reduceLeDiff, Int.reduceBEq, Int.reduceBNe, Int.reduceToNat, ne_eq, implies_true, bA]
        refine callS (rInner_spec (outG kdAt 5 s (manyG 5 s)) (by rw [outG_len]; omega)) rfl ?_
        by_cases hgood : goodG entK kdAt 5 kidsB s
        · have hw : writeG entK kidsB (outG kdAt 5 s (manyG 5 s)) = (s, 0) := by rw [writeG, if_pos hgood.1, hgood.2]
          rw [hw, readG_yes hgood]
          have d3 : (s == s) = true := by simp
          simp (config := {maxSteps := 4000000}) only [U_ref09_ReadInner, d3, hro, reduceIte, reduceCtorEq, Nat.reduceEqDiff, Nat.reduceAdd, Int.reduceLT, Int.reduceLE, Int.reduceNeg, Int.reduceEq, Nat.reduceLT, Nat.reduceSub, Nat.reduceMul, Nat.reduceBEq, Nat.reduceLeDiff, Int.reduceBEq, Int.reduceBNe, Int.reduceToNat, ne_eq, implies_true, bA]
        · rw [readG_no hgood]
          cases hmq : kidsB (outG kdAt 5 s (manyG 5 s)) with
          | false =>
            have hw : writeG entK kidsB (outG kdAt 5 s (manyG 5 s)) = ([], 1) := by rw [writeG, if_neg (by rw [hmq]; simp)]
            rw [hw]
            simp (config := {maxSteps := 4000000}) only [U_ref09_ReadInner, reduceIte, reduceCtorEq, Nat.reduceEqDiff, Nat.reduceAdd, Int.reduceLT, Int.reduceLE, Int.reduceNeg, Int.reduceEq, Nat.reduceLT, Nat.reduceSub, Nat.reduceMul, Nat.reduceBEq, Nat.reduceLeDiff, Int.reduceBEq, Int.reduceBNe, Int.reduceToNat, ne_eq, implies_true, bA]
          | true =>
            have hw : writeG entK kidsB (outG kdAt 5 s (manyG 5 s)) = (recG entK (outG kdAt 5 s (manyG 5 s)), 0) := by rw [writeG, if_pos hmq]
            have d3 : (recG entK (outG kdAt 5 s (manyG 5 s)) == s) = false := by
              rw [beq_eq_false_iff_ne]; exact fun h => hgood ⟨hmq, h⟩
            rw [hw]
            simp (config := {maxSteps := 4000000}) only [U_ref09_ReadInner, d3, reduceIte, reduceCtorEq, Nat.reduceEqDiff, Nat.reduceAdd, Int.reduceLT, Int.reduceLE, Int.reduceNeg, Int.reduceEq, Nat.reduceLT, Nat.reduceSub, Nat.reduceMul, Nat.reduceBEq, Nat.reduceLeDiff, Int.reduceBEq, Int.reduceBNe, Int.reduceToNat, ne_eq, implies_true, bA]
      · simp (config := {maxSteps := 4000000}) only [U_ref09_ReadInner, hro, hrl, d1, d2, reduceIte, reduceCtorEq, Nat.reduceEqDiff, Nat.reduceAdd, Int.reduceLT, Int.reduceLE, Int.reduceNeg, Int.reduceEq, Nat.reduceLT, Nat.reduceSub, Nat.reduceMul, Nat.reduceBEq, Nat.reduceLeDiff, Int.reduceBEq, Int.reduceBNe, Int.reduceToNat, ne_eq, implies_true, bA]
        refine callS (rInner_spec (outG kdAt 5 s (manyG 5 s)) (by rw [outG_len]; omega)) rfl ?_
        by_cases hgood : goodG entK kdAt 5 kidsB s
        · have hw : writeG entK kidsB (outG kdAt 5 s (manyG 5 s)) = (s, 0) := by rw [writeG, if_pos hgood.1, hgood.2]
          rw [hw, readG_yes hgood]
          have d3 : (s == s) = true := by simp
          simp (config := {maxSteps := 4000000}) only [U_ref09_ReadInner, d3, hro, reduceIte, reduceCtorEq, Nat.reduceEqDiff, Nat.reduceAdd, Int.reduceLT, Int.reduceLE, Int.reduceNeg, Int.reduceEq, Nat.reduceLT, Nat.reduceSub, Nat.reduceMul, Nat.reduceBEq, Nat.reduceLeDiff, Int.reduceBEq, Int.reduceBNe, Int.reduceToNat, ne_eq, implies_true, bA]
        · rw [readG_no hgood]
          cases hmq : kidsB (outG kdAt 5 s (manyG 5 s)) with
          | false =>
            have hw : writeG entK kidsB (outG kdAt 5 s (manyG 5 s)) = ([], 1) := by rw [writeG, if_neg (by rw [hmq]; simp)]
            rw [hw]
            simp (config := {maxSteps := 4000000}) only [U_ref09_ReadInner, reduceIte, reduceCtorEq, Nat.reduceEqDiff, Nat.reduceAdd, Int.reduceLT, Int.reduceLE, Int.reduceNeg, Int.reduceEq, Nat.reduceLT, Nat.reduceSub, Nat.reduceMul, Nat.reduceBEq, Nat.reduceLeDiff, Int.reduceBEq, Int.reduceBNe, Int.reduceToNat, ne_eq, implies_true, bA]
          | true =>
            have hw : writeG entK kidsB (outG kdAt 5 s (manyG 5 s)) = (recG entK (outG kdAt 5 s (manyG 5 s)), 0) := by rw [writeG, if_pos hmq]
            have d3 : (recG entK (outG kdAt 5 s (manyG 5 s)) == s) = false := by
              rw [beq_eq_false_iff_ne]; exact fun h => hgood ⟨hmq, h⟩
            rw [hw]
            simp (config := {maxSteps := 4000000}) only [U_ref09_ReadInner, d3, reduceIte, reduceCtorEq, Nat.reduceEqDiff, Nat.reduceAdd, Int.reduceLT, Int.reduceLE, Int.reduceNeg, Int.reduceEq, Nat.reduceLT, Nat.reduceSub, Nat.reduceMul, Nat.reduceBEq, Nat.reduceLeDiff, Int.reduceBEq, Int.reduceBNe, Int.reduceToNat, ne_eq, implies_true, bA]
theorem eq_Kid (a b : Kd) : (a.ky == b.ky && (a.at_ == b.at_)) = decide (a = b) := by
  rw [Bool.eq_iff_iff]
  cases a; cases b
  simp
theorem sameKid_spec (a b : List Kd) (ha : a.length ≤ 9223372036854775807) (hb : b.length ≤ 9223372036854775807) : PCall Try.prog 18 [.slc (a.map rowK), .slc (b.map rowK)] (.bool (decide (a = b))) := by
  refine pcall_go Try.func18 comp_ref09_Same ?_
  by_cases hl : a.length = b.length
  · have d0 : ((a.length : Int) != (b.length : Int)) = false := by simp only [bne_eq_false_iff_eq]; omega
    simp (config := {maxSteps := 4000000}) only [U_ref09_Same, d0, reduceIte, reduceCtorEq, Nat.reduceEqDiff, Nat.reduceAdd, Int.reduceLT, Int.reduceLE, Int.reduceNeg, Int.reduceEq, Nat.reduceLT, Nat.reduceSub, Nat.reduceMul, Nat.reduceBEq, Nat.reduceLeDiff, Int.reduceBEq, Int.reduceBNe, Int.reduceToNat, ne_eq, implies_true, bA]
    refine loopF (fun i : Nat => ⟨ofL [(0, .slc (a.map rowK)), (1, .slc (b.map rowK)), (5, .int .i64 i)], []⟩) (fun i => i ≤ a.length ∧ ∀ j (h1 : j < a.length) (h2 : j < b.length), j < i → a[j] = b[j]) (fun i => a.length - i) 0 ?_ ⟨Nat.zero_le _, fun j _ _ h => absurd h (by omega)⟩ ?_
    · simp (config := {maxSteps := 4000000}) only [U_ref09_Same, reduceIte, reduceCtorEq, Nat.reduceEqDiff, Nat.reduceAdd, Int.reduceLT, Int.reduceLE, Int.reduceNeg, Int.reduceEq, Nat.reduceLT, Nat.reduceSub, Nat.reduceMul, Nat.reduceBEq, Nat.reduceLeDiff, Int.reduceBEq, Int.reduceBNe, Int.reduceToNat, ne_eq, implies_true, bA]
      all_goals rfl
    · intro i ⟨hi, hj⟩
      by_cases h : i < a.length
      · have d : decide ((i : Int) < (a.length : Int)) = true := by simpa using h
        have h' : i < b.length := by omega
        have e1 : IntKind.i64.wrap ((i : Int) + 1) = ((i + 1 : Nat) : Int) := by rw [wrapI (by omega) (by omega)]; omega
        by_cases he : a[i] = b[i]
        · have dq := decide_eq_true he
          rw [← eq_Kid] at dq
          simp (config := {maxSteps := 4000000}) only [U_ref09_Same, d, islV_map (g := rowK) h (rowK_len _), islV_map (g := rowK) h' (rowK_len _), rowK, dq, e1, reduceIte, reduceCtorEq, Nat.reduceEqDiff, Nat.reduceAdd, Int.reduceLT, Int.reduceLE, Int.reduceNeg, Int.reduceEq, Nat.reduceLT, Nat.reduceSub, Nat.reduceMul, Nat.reduceBEq, Nat.reduceLeDiff, Int.reduceBEq, Int.reduceBNe, Int.reduceToNat, ne_eq, implies_true, bA]
          refine ⟨i + 1, rfl, ⟨h, fun j h1 h2 hlt => ?_⟩, by omega⟩
          by_cases e : j = i
          · subst e; exact he
          · exact hj j h1 h2 (by omega)
        · have dq := decide_eq_false he
          rw [← eq_Kid] at dq
          have hne : a ≠ b := fun e => he (by subst e; rfl)
          simp (config := {maxSteps := 4000000}) only [U_ref09_Same, d, islV_map (g := rowK) h (rowK_len _), islV_map (g := rowK) h' (rowK_len _), rowK, dq, reduceIte, reduceCtorEq, Nat.reduceEqDiff, Nat.reduceAdd, Int.reduceLT, Int.reduceLE, Int.reduceNeg, Int.reduceEq, Nat.reduceLT, Nat.reduceSub, Nat.reduceMul, Nat.reduceBEq, Nat.reduceLeDiff, Int.reduceBEq, Int.reduceBNe, Int.reduceToNat, ne_eq, implies_true, bA]
          simp [hne]
      · have d : decide ((i : Int) < (a.length : Int)) = false := by simpa using h
        have hab : a = b := List.ext_getElem hl fun j h1 h2 => hj j h1 h2 (by omega)
        simp (config := {maxSteps := 4000000}) only [U_ref09_Same, d, reduceIte, reduceCtorEq, Nat.reduceEqDiff, Nat.reduceAdd, Int.reduceLT, Int.reduceLE, Int.reduceNeg, Int.reduceEq, Nat.reduceLT, Nat.reduceSub, Nat.reduceMul, Nat.reduceBEq, Nat.reduceLeDiff, Int.reduceBEq, Int.reduceBNe, Int.reduceToNat, ne_eq, implies_true, bA]
        simp [hab]
  · have d0 : ((a.length : Int) != (b.length : Int)) = true := by simp only [bne_iff_ne, ne_eq]; omega
    have hne : a ≠ b := fun e => hl (by rw [e])
    simp (config := {maxSteps := 4000000}) only [U_ref09_Same, d0, reduceIte, reduceCtorEq, Nat.reduceEqDiff, Nat.reduceAdd, Int.reduceLT, Int.reduceLE, Int.reduceNeg, Int.reduceEq, Nat.reduceLT, Nat.reduceSub, Nat.reduceMul, Nat.reduceBEq, Nat.reduceLeDiff, Int.reduceBEq, Int.reduceBNe, Int.reduceToNat, ne_eq, implies_true, bA]
    simp [hne]
theorem refsKid_spec (l : List Kd) (hl : l.length ≤ 16777216) : PCall Try.prog 19 [.slc (l.map rowK)] (.own 2 (l.map rowK)) := by
  refine pcall_go Try.func19 comp_law09_refs ?_
  simp (config := {maxSteps := 4000000}) only [U_law09_refs, reduceIte, reduceCtorEq, Nat.reduceEqDiff, Nat.reduceAdd, Int.reduceLT, Int.reduceLE, Int.reduceNeg, Int.reduceEq, Nat.reduceLT, Nat.reduceSub, Nat.reduceMul, Nat.reduceBEq, Nat.reduceLeDiff, Int.reduceBEq, Int.reduceBNe, Int.reduceToNat, ne_eq, implies_true, bA]
  refine loopF (fun i : Nat => ⟨ofL [(0, .slc (l.map rowK)), (3, .osl 0 0 i), (4, .int .i64 i)], [.list 2 ((l.take i).map rowK)]⟩) (fun i => i ≤ l.length) (fun i => l.length - i) 0 ?_ (Nat.zero_le _) ?_
  · simp (config := {maxSteps := 4000000}) only [U_law09_refs, reduceIte, reduceCtorEq, Nat.reduceEqDiff, Nat.reduceAdd, Int.reduceLT, Int.reduceLE, Int.reduceNeg, Int.reduceEq, Nat.reduceLT, Nat.reduceSub, Nat.reduceMul, Nat.reduceBEq, Nat.reduceLeDiff, Int.reduceBEq, Int.reduceBNe, Int.reduceToNat, ne_eq, implies_true, bA]
    all_goals rfl
  · intro i hi
    by_cases h : i < l.length
    · have d : decide ((i : Int) < (l.length : Int)) = true := by simpa using h
      have e1 : IntKind.i64.wrap ((i : Int) + 1) = ((i + 1 : Nat) : Int) := by rw [wrapI (by omega) (by omega)]; omega
      have hti : (l.take i).length = i := by simp; omega
      have ha : appO [AObj.list 2 ((l.take i).map rowK)] [] none 2 (.osl 0 0 i) (some [[.int .i64 l[i].ky, .int .i64 l[i].at_]]) = some (.osl 0 0 (i + 1), [AObj.list 2 ((l.take (i + 1)).map rowK)]) := by
        have := app_map (ob := [AObj.list 2 ((l.take i).map rowK)]) (fb := []) (nw := none) (o := 0) (n := i) (e := 2) (g := rowK) (l := l.take i) (m := [l[i]]) rfl rfl hti.symm (by omega) (by simp) rowK_len
        rw [List.take_succ_eq_append_getElem h]
        exact this
      simp (config := {maxSteps := 4000000}) only [U_law09_refs, d, islV_map (g := rowK) h (rowK_len _), rowK, ha, e1, reduceIte, reduceCtorEq, Nat.reduceEqDiff, Nat.reduceAdd, Int.reduceLT, Int.reduceLE, Int.reduceNeg, Int.reduceEq, Nat.reduceLT, Nat.reduceSub, Nat.reduceMul, Nat.reduceBEq, Nat.reduceLeDiff, Int.reduceBEq, Int.reduceBNe, Int.reduceToNat, ne_eq, implies_true, bA]
      exact ⟨i + 1, rfl, h, by omega⟩
    · have d : decide ((i : Int) < (l.length : Int)) = false := by simpa using h
      have : i = l.length := by omega
      subst this
      simp (config := {maxSteps := 4000000}) only [U_law09_refs, d, List.take_length, retO_list (e := 2) (rows := l.map rowK) (n := l.length) (by simp), reduceIte, reduceCtorEq, Nat.reduceEqDiff, Nat.reduceAdd, Int.reduceLT, Int.reduceLE, Int.reduceNeg, Int.reduceEq, Nat.reduceLT, Nat.reduceSub, Nat.reduceMul, Nat.reduceBEq, Nat.reduceLeDiff, Int.reduceBEq, Int.reduceBNe, Int.reduceToNat, ne_eq, implies_true, bA]
end Go.Proofs.Ytlkpceacmfndlaa.Aw
