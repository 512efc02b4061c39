/-
  What the functions of the package 'leaf' compute, and the document's: writing and reading, one thing behind the other.
-/
import Derived.Test.YtlkpceacmfndlaaPExt
import Derived.Test.YtlkpceacmfndlaaMLeaf
set_option linter.unusedSimpArgs false
set_option linter.unusedVariables false
namespace Go.Proofs.Ytlkpceacmfndlaa.Aw
open Go.RowKit

abbrev pK (k : Kd) : PV := .agg (rowK k)
theorem bytesOf_len (n : Nat) : bytesOf? [[PV.int .u8 (((UInt8.ofNat n).toNat : Nat) : Int)]] = some (leB 1 n) := by
  rw [bytesOf_one]; rfl
theorem extWidths_spec : PCall Try.prog 26 [] (.slc (rowsZ .i64 [3, 4, 1, 2])) := by
  refine pcall_go Try.func26 comp_leaf_extWidths ?_
  simp (config := {maxSteps := 4000000}) only [U_leaf_extWidths, reduceIte, reduceCtorEq, Nat.reduceEqDiff, Nat.reduceAdd, Int.reduceLT, Int.reduceLE, Int.reduceNeg, Int.reduceEq, Nat.reduceLT, Nat.reduceSub, Nat.reduceMul, Nat.reduceBEq, Nat.reduceLeDiff, Int.reduceBEq, Int.reduceBNe, Int.reduceToNat, ne_eq, implies_true, bA]
  rfl
theorem leaf_Leaf_c1_spec (e : Xt) (h : FitE e) : PCall Try.prog 27 [pE e] (.slc (rowsN .u64 (numE e))) := by
  refine pcall_go Try.func27 comp_leaf_Leaf_c1 ?_
  obtain ⟨⟨a, b, c, d, f⟩, g⟩ := h
  have u0 : IntKind.u64.wrap e.fr = ((e.fr.toNat : Nat) : Int) := wrapU_nat (by omega) (by omega)
  have u1 : IntKind.u64.wrap e.n = ((e.n.toNat : Nat) : Int) := wrapU_nat (by omega) (by omega)
  have u2 : IntKind.u64.wrap e.kd = ((e.kd.toNat : Nat) : Int) := wrapU_nat (by omega) (by omega)
  have u3 : IntKind.u64.wrap e.at_ = ((e.at_.toNat : Nat) : Int) := wrapU_nat (by omega) (by omega)
  simp (config := {maxSteps := 4000000}) only [U_leaf_Leaf_c1, rowE, u0, u1, u2, u3, reduceIte, reduceCtorEq, Nat.reduceEqDiff, Nat.reduceAdd, Int.reduceLT, Int.reduceLE, Int.reduceNeg, Int.reduceEq, Nat.reduceLT, Nat.reduceSub, Nat.reduceMul, Nat.reduceBEq, Nat.reduceLeDiff, Int.reduceBEq, Int.reduceBNe, Int.reduceToNat, ne_eq, implies_true, bA]
  rfl
theorem writeExt_spec (l : List Xt) (h8 : l.length ≤ 8) (hf : ∀ e ∈ l, FitE e) : PCall Try.prog 25 [.slc (l.map rowE), .slc (rowsZ .i64 [3, 4, 1, 2]), .fn (.func 27) [] []] (.tup [.str (recG entE l), .int .i64 0]) := by
  refine pcall_go Try.func25 comp_leaf_write_api_Ext ?_
  have e0 : IntKind.u8.wrap (l.length : Int) = (((UInt8.ofNat l.length).toNat : Nat) : Int) := byte8 _
  simp (config := {maxSteps := 4000000}) only [U_leaf_write_api_Ext, e0, bytesOf_len, reduceIte, reduceCtorEq, Nat.reduceEqDiff, Nat.reduceAdd, Int.reduceLT, Int.reduceLE, Int.reduceNeg, Int.reduceEq, Nat.reduceLT, Nat.reduceSub, Nat.reduceMul, Nat.reduceBEq, Nat.reduceLeDiff, Int.reduceBEq, Int.reduceBNe, Int.reduceToNat, ne_eq, implies_true, bA]
  refine loopF (fun i : Nat => ⟨ofL [(1, .slc (rowsZ .i64 [3, 4, 1, 2])), (2, .fn (.func 27) [] []), (8, .str (accG entE l i)), (18, .slc (l.map rowE)), (19, .int .i64 l.length), (20, .int .i64 i)], []⟩) (fun i => i ≤ l.length) (fun i => l.length - i) 0 ?_ (Nat.zero_le _) ?_
  · simp (config := {maxSteps := 4000000}) only [U_leaf_write_api_Ext, accG_0, reduceIte, reduceCtorEq, Nat.reduceEqDiff, Nat.reduceAdd, Int.reduceLT, Int.reduceLE, Int.reduceNeg, Int.reduceEq, Nat.reduceLT, Nat.reduceSub, Nat.reduceMul, Nat.reduceBEq, Nat.reduceLeDiff, Int.reduceBEq, Int.reduceBNe, Int.reduceToNat, ne_eq, implies_true, bA]
    all_goals rfl
  · intro i hi
    by_cases h : i < l.length
    · have d : decide ((i : Int) < (l.length : Int)) = true := by simpa using h
      have e1 : IntKind.i64.wrap ((i : Int) + 1) = ((i + 1 : Nat) : Int) := by rw [wrapI (by omega) (by omega)]; omega
      have ho := hf _ (List.getElem_mem h)
      simp (config := {maxSteps := 4000000}) only [U_leaf_write_api_Ext, d, islV_map (g := rowE) h (rowE_len _), rowE, reduceIte, reduceCtorEq, Nat.reduceEqDiff, Nat.reduceAdd, Int.reduceLT, Int.reduceLE, Int.reduceNeg, Int.reduceEq, Nat.reduceLT, Nat.reduceSub, Nat.reduceMul, Nat.reduceBEq, Nat.reduceLeDiff, Int.reduceBEq, Int.reduceBNe, Int.reduceToNat, ne_eq, implies_true, bA]
      refine callI (leaf_Leaf_c1_spec l[i] ho) ?_
      simp (config := {maxSteps := 4000000}) only [U_leaf_write_api_Ext, reduceIte, reduceCtorEq, Nat.reduceEqDiff, Nat.reduceAdd, Int.reduceLT, Int.reduceLE, Int.reduceNeg, Int.reduceEq, Nat.reduceLT, Nat.reduceSub, Nat.reduceMul, Nat.reduceBEq, Nat.reduceLeDiff, Int.reduceBEq, Int.reduceBNe, Int.reduceToNat, ne_eq, implies_true, bA]
      refine callI (row_spec (numE l[i]) [3, 4, 1, 2] (by simp [numE]) (by simp) (by
        intro n hn
        obtain ⟨⟨a, b, c, d, f⟩, g⟩ := ho
        simp only [numE, List.mem_cons, List.not_mem_nil, or_false] at hn
        rcases hn with rfl | rfl | rfl | rfl <;> omega)) ?_
      rw [row_entE l[i] ho]
      have hal := accG_len entE_len l i hi
      have hf2 : binS .add (accG entE l i) (entE l[i]) = some (.str (accG entE l (i + 1))) := by
        rw [binS_cat (by rw [entE_len]; omega), accG_succ l i h]
      simp (config := {maxSteps := 4000000}) only [U_leaf_write_api_Ext, hf2, e1, reduceIte, reduceCtorEq, Nat.reduceEqDiff, Nat.reduceAdd, Int.reduceLT, Int.reduceLE, Int.reduceNeg, Int.reduceEq, Nat.reduceLT, Nat.reduceSub, Nat.reduceMul, Nat.reduceBEq, Nat.reduceLeDiff, Int.reduceBEq, Int.reduceBNe, Int.reduceToNat, ne_eq, implies_true, bA]
      exact ⟨i + 1, rfl, h, by omega⟩
    · have d : decide ((i : Int) < (l.length : Int)) = false := by simpa using h
      have : i = l.length := by omega
      subst this
      simp (config := {maxSteps := 4000000}) only [U_leaf_write_api_Ext, d, accG_all, reduceIte, reduceCtorEq, Nat.reduceEqDiff, Nat.reduceAdd, Int.reduceLT, Int.reduceLE, Int.reduceNeg, Int.reduceEq, Nat.reduceLT, Nat.reduceSub, Nat.reduceMul, Nat.reduceBEq, Nat.reduceLeDiff, Int.reduceBEq, Int.reduceBNe, Int.reduceToNat, ne_eq, implies_true, bA]
theorem leaf_ReadLeaf_c1_spec (m0 m1 m2 m3 : Nat) (h0 : m0 < 4294967296) (h1 : m1 < 4294967296) (h2 : m2 < 4294967296) (h3 : m3 < 4294967296) : PCall Try.prog 31 [.slc (rowsN .u64 [m0, m1, m2, m3])] (pE ⟨(m0 : Int), (m1 : Int), (m2 : Int), (m3 : Int)⟩) := by
  refine pcall_go Try.func31 comp_leaf_ReadLeaf_c1 ?_
  have j0 : ∀ ob fb, islV ob fb 1 (.slc (rowsN .u64 [m0, m1, m2, m3])) (.int .i64 0) = some (.fptr [.int .u64 (m0 : Int)]) := fun _ _ => rfl
  have j1 : ∀ ob fb, islV ob fb 1 (.slc (rowsN .u64 [m0, m1, m2, m3])) (.int .i64 1) = some (.fptr [.int .u64 (m1 : Int)]) := fun _ _ => rfl
  have j2 : ∀ ob fb, islV ob fb 1 (.slc (rowsN .u64 [m0, m1, m2, m3])) (.int .i64 2) = some (.fptr [.int .u64 (m2 : Int)]) := fun _ _ => rfl
  have j3 : ∀ ob fb, islV ob fb 1 (.slc (rowsN .u64 [m0, m1, m2, m3])) (.int .i64 3) = some (.fptr [.int .u64 (m3 : Int)]) := fun _ _ => rfl
  have c0 : IntKind.i64.wrap (m0 : Int) = (m0 : Int) := wrapI (by omega) (by omega)
  have c1 : IntKind.i64.wrap (m1 : Int) = (m1 : Int) := wrapI (by omega) (by omega)
  have c2 : IntKind.i64.wrap (m2 : Int) = (m2 : Int) := wrapI (by omega) (by omega)
  have c3 : IntKind.i64.wrap (m3 : Int) = (m3 : Int) := wrapI (by omega) (by omega)
  simp (config := {maxSteps := 4000000}) only [U_leaf_ReadLeaf_c1, j0, c0, j1, c1, j2, c2, j3, c3, reduceIte, reduceCtorEq, Nat.reduceEqDiff, Nat.reduceAdd, Int.reduceLT, Int.reduceLE, Int.reduceNeg, Int.reduceEq, Nat.reduceLT, Nat.reduceSub, Nat.reduceMul, Nat.reduceBEq, Nat.reduceLeDiff, Int.reduceBEq, Int.reduceBNe, Int.reduceToNat, ne_eq, implies_true, bA]
  rfl
theorem readExt_spec (hmay : ∀ l : List Xt, l.length ≤ 300 → PCall Try.prog 24 [.slc (l.map rowE)] (.bool (leafB l))) (s : List UInt8) (hs : s.length ≤ 1000000) :
    PCall Try.prog 30 [.str s, .slc (rowsZ .i64 [3, 4, 1, 2]), .fn (.func 24) [] [], .fn (.func 31) [] []] (.tup [.slc ((readG entE exAt 10 leafB s).1.map rowE), .int .i64 (readG entE exAt 10 leafB s).2]) := by
  refine pcall_go Try.func30 comp_leaf_read_api_Ext ?_
  have hsh := good_shape (ent := entE) (p := exAt) (k := 10) (may := leafB) entE_len (s := s)
  by_cases h0 : s = []
  · have d0 : (s == []) = true := by simp [h0]
    rw [readG_no fun h => by have := (hsh h).1; rw [h0] at this; simp only [List.length_nil] at this; omega]
    simp (config := {maxSteps := 4000000}) only [U_leaf_read_api_Ext, d0, reduceIte, reduceCtorEq, Nat.reduceEqDiff, Nat.reduceAdd, Int.reduceLT, Int.reduceLE, Int.reduceNeg, Int.reduceEq, Nat.reduceLT, Nat.reduceSub, Nat.reduceMul, Nat.reduceBEq, Nat.reduceLeDiff, Int.reduceBEq, Int.reduceBNe, Int.reduceToNat, ne_eq, implies_true, bA]
  · have d0 : (s == []) = false := by simp [h0]
    have hl0 : 0 < s.length := List.length_pos_iff.2 h0
    have hi0 : idxsV (.str s) (.int .i64 0) = some (.int .u8 ((leN (s.take 1) : Nat) : Int)) := by
      cases s with
      | nil => exact absurd rfl h0
      | cons b t => simp [idxsV, leN]
    have g1 : sstrV (.str s) (some (some 1)) (some none) = some (.str (s.drop 1)) := sstrV_from (i := 1) (by omega)
    have hrec := fun n => recG_out (ent := entE) (p := exAt) (k := 10) (fun a s h => enc_ext a s h) (s := s) (n := n)
    have hb : leN (s.take 1) < 256 := by have := leN_lt (s.take 1); rw [show (s.take 1).length = 1 by simp; omega] at this; exact this
    generalize leN (s.take 1) = n1 at *
    by_cases h8 : n1 ≤ 8
    · have d1 : decide ((8 : Int) < (n1 : Int)) = false := by simp; omega
      simp (config := {maxSteps := 4000000}) only [U_leaf_read_api_Ext, d0, hi0, d1, g1, reduceIte, reduceCtorEq, Nat.reduceEqDiff, Nat.reduceAdd, Int.reduceLT, Int.reduceLE, Int.reduceNeg, Int.reduceEq, Nat.reduceLT, Nat.reduceSub, Nat.reduceMul, Nat.reduceBEq, Nat.reduceLeDiff, Int.reduceBEq, Int.reduceBNe, Int.reduceToNat, ne_eq, implies_true, bA]
      refine loopF (fun i : Nat => ⟨ofL [(1, .slc (rowsZ .i64 [3, 4, 1, 2])), (2, .fn (.func 24) [] []), (3, .fn (.func 31) [] []), (10, .osl 0 0 i), (11, .str (s.drop (1 + 10 * i))), (25, .int .u8 n1), (26, .int .u8 i)], [.list 4 ((outG exAt 10 s i).map rowE)]⟩) (fun i => i ≤ n1 ∧ 1 + 10 * i ≤ s.length) (fun i => n1 - i) 0 ?_ ⟨Nat.zero_le _, by omega⟩ ?_
      · simp (config := {maxSteps := 4000000}) only [U_leaf_read_api_Ext, reduceIte, reduceCtorEq, Nat.reduceEqDiff, Nat.reduceAdd, Int.reduceLT, Int.reduceLE, Int.reduceNeg, Int.reduceEq, Nat.reduceLT, Nat.reduceSub, Nat.reduceMul, Nat.reduceBEq, Nat.reduceLeDiff, Int.reduceBEq, Int.reduceBNe, Int.reduceToNat, ne_eq, implies_true, bA]
        all_goals rfl
      · intro i ⟨hi, hil⟩
        by_cases hlt : i < n1
        · have d : decide ((i : Int) < (n1 : Int)) = true := by simpa using hlt
          have e1 : IntKind.u8.wrap ((i : Int) + 1) = ((i + 1 : Nat) : Int) := by rw [wrap8]; omega
          simp (config := {maxSteps := 4000000}) only [U_leaf_read_api_Ext, d, reduceIte, reduceCtorEq, Nat.reduceEqDiff, Nat.reduceAdd, Int.reduceLT, Int.reduceLE, Int.reduceNeg, Int.reduceEq, Nat.reduceLT, Nat.reduceSub, Nat.reduceMul, Nat.reduceBEq, Nat.reduceLeDiff, Int.reduceBEq, Int.reduceBNe, Int.reduceToNat, ne_eq, implies_true, bA]
          refine callI (take_spec (s.drop (1 + 10 * i)) [3, 4, 1, 2] (by simp; omega) (by simp)) ?_
          by_cases h9 : s.length < 1 + 10 * i + 10
          · rw [take_ext_no _ (by simp; omega), readG_no (fun h => by obtain ⟨q1, q2⟩ := hsh h; omega)]
            simp (config := {maxSteps := 4000000}) only [U_leaf_read_api_Ext, reduceIte, reduceCtorEq, Nat.reduceEqDiff, Nat.reduceAdd, Int.reduceLT, Int.reduceLE, Int.reduceNeg, Int.reduceEq, Nat.reduceLT, Nat.reduceSub, Nat.reduceMul, Nat.reduceBEq, Nat.reduceLeDiff, Int.reduceBEq, Int.reduceBNe, Int.reduceToNat, ne_eq, implies_true, bA]
          · rw [take_ext _ (by simp; omega)]
            simp only [List.drop_drop]
            have v0 : gS s (1 + 10 * i) 3 = (leN ((s.drop (1 + 10 * i)).take 3) : Int) := gS_in (by decide) (by decide) (by omega)
            have v1 : gS s (1 + 10 * i + 3) 4 = (leN ((s.drop (1 + 10 * i + 3)).take 4) : Int) := gS_in (by decide) (by decide) (by omega)
            have v2 : gS s (1 + 10 * i + 7) 1 = (leN ((s.drop (1 + 10 * i + 7)).take 1) : Int) := gS_in (by decide) (by decide) (by omega)
            have v3 : gS s (1 + 10 * i + 8) 2 = (leN ((s.drop (1 + 10 * i + 8)).take 2) : Int) := gS_in (by decide) (by decide) (by omega)
            have t0 := leN_lt ((s.drop (1 + 10 * i)).take 3)
            rw [show ((s.drop (1 + 10 * i)).take 3).length = 3 by simp; omega] at t0
            have t1 := leN_lt ((s.drop (1 + 10 * i + 3)).take 4)
            rw [show ((s.drop (1 + 10 * i + 3)).take 4).length = 4 by simp; omega] at t1
            have t2 := leN_lt ((s.drop (1 + 10 * i + 7)).take 1)
            rw [show ((s.drop (1 + 10 * i + 7)).take 1).length = 1 by simp; omega] at t2
            have t3 := leN_lt ((s.drop (1 + 10 * i + 8)).take 2)
            rw [show ((s.drop (1 + 10 * i + 8)).take 2).length = 2 by simp; omega] at t3
            have hsucc := outG_succ (p := exAt) (k := 10) s i
            have hsp : exAt s (1 + 10 * i) = ⟨gS s (1 + 10 * i) 3, gS s (1 + 10 * i + 3) 4, gS s (1 + 10 * i + 7) 1, gS s (1 + 10 * i + 8) 2⟩ := rfl
            have hol := outG_len (p := exAt) (k := 10) s i
            rw [v0, v1, v2, v3] at hsp
            generalize leN ((s.drop (1 + 10 * i)).take 3) = m0 at *
            generalize leN ((s.drop (1 + 10 * i + 3)).take 4) = m1 at *
            generalize leN ((s.drop (1 + 10 * i + 7)).take 1) = m2 at *
            generalize leN ((s.drop (1 + 10 * i + 8)).take 2) = m3 at *
            have ha : ∀ ob nw, appO (AObj.list 4 ((outG exAt 10 s i).map rowE) :: ob) [] nw 4 (.osl 0 0 i) (some [[.int .i64 (m0 : Int), .int .i64 (m1 : Int), .int .i64 (m2 : Int), .int .i64 (m3 : Int)]]) = some (.osl 0 0 (i + 1), AObj.list 4 ((outG exAt 10 s (i + 1)).map rowE) :: ob) := fun ob nw => by
              have := app_map (ob := AObj.list 4 ((outG exAt 10 s i).map rowE) :: ob) (fb := []) (nw := nw) (o := 0) (n := i) (e := 4) (g := rowE) (l := outG exAt 10 s i) (m := [exAt s (1 + 10 * i)]) rfl rfl hol.symm (by omega) (by simp) rowE_len
              rw [hsucc]; rw [hsp] at this ⊢
              exact this
            simp (config := {maxSteps := 4000000}) only [U_leaf_read_api_Ext, reduceIte, reduceCtorEq, Nat.reduceEqDiff, Nat.reduceAdd, Int.reduceLT, Int.reduceLE, Int.reduceNeg, Int.reduceEq, Nat.reduceLT, Nat.reduceSub, Nat.reduceMul, Nat.reduceBEq, Nat.reduceLeDiff, Int.reduceBEq, Int.reduceBNe, Int.reduceToNat, ne_eq, implies_true, bA]
            refine callI (leaf_ReadLeaf_c1_spec m0 m1 m2 m3 (by omega) (by omega) (by omega) (by omega)) ?_
            simp (config := {maxSteps := 4000000}) only [U_leaf_read_api_Ext, rowE, ha, e1, reduceIte, reduceCtorEq, Nat.reduceEqDiff, Nat.reduceAdd, Int.reduceLT, Int.reduceLE, Int.reduceNeg, Int.reduceEq, Nat.reduceLT, Nat.reduceSub, Nat.reduceMul, Nat.reduceBEq, Nat.reduceLeDiff, Int.reduceBEq, Int.reduceBNe, Int.reduceToNat, ne_eq, implies_true, bA]
            refine ⟨i + 1, ?_, ⟨hlt, by omega⟩, by omega⟩
            rw [show 1 + 10 * (i + 1) = 1 + 10 * i + 10 by omega]
        · have d : decide ((i : Int) < (n1 : Int)) = false := by simpa using hlt
          have hin : i = n1 := by omega
          subst hin
          have hro : rowsO (some (AObj.list 4 ((outG exAt 10 s i).map rowE))) 0 i = some ((outG exAt 10 s i).map rowE) := rowsO_all (by simp [outG_len])
          by_cases hrest : s.length = 1 + 10 * i
          · have d2 : (s.drop (1 + 10 * i) == []) = true := by simp; omega
            have hm := many_eq (k := 10) (by decide) h8 hrest
            simp (config := {maxSteps := 4000000}) only [U_leaf_read_api_Ext, d, d2, hro, reduceIte, reduceCtorEq, Nat.reduceEqDiff, Nat.reduceAdd, Int.reduceLT, Int.reduceLE, Int.reduceNeg, Int.reduceEq, Nat.reduceLT, Nat.reduceSub, Nat.reduceMul, Nat.reduceBEq, Nat.reduceLeDiff, Int.reduceBEq, Int.reduceBNe, Int.reduceToNat, ne_eq, implies_true, bA]
            refine callS (hmay (outG exAt 10 s i) (by rw [outG_len]; omega)) rfl ?_
            cases hq : leafB (outG exAt 10 s i) with
            | true =>
              rw [readG_yes ⟨by rw [hm]; exact hq, by rw [hm]; exact hrec i rfl hrest⟩, hm]
              simp (config := {maxSteps := 4000000}) only [U_leaf_read_api_Ext, hro, reduceIte, reduceCtorEq, Nat.reduceEqDiff, Nat.reduceAdd, Int.reduceLT, Int.reduceLE, Int.reduceNeg, Int.reduceEq, Nat.reduceLT, Nat.reduceSub, Nat.reduceMul, Nat.reduceBEq, Nat.reduceLeDiff, Int.reduceBEq, Int.reduceBNe, Int.reduceToNat, ne_eq, implies_true, bA]
            | false =>
              rw [readG_no fun h => by have := h.1; rw [hm, hq] at this; cases this]
              simp (config := {maxSteps := 4000000}) only [U_leaf_read_api_Ext, reduceIte, reduceCtorEq, Nat.reduceEqDiff, Nat.reduceAdd, Int.reduceLT, Int.reduceLE, Int.reduceNeg, Int.reduceEq, Nat.reduceLT, Nat.reduceSub, Nat.reduceMul, Nat.reduceBEq, Nat.reduceLeDiff, Int.reduceBEq, Int.reduceBNe, Int.reduceToNat, ne_eq, implies_true, bA]
          · have d2 : (s.drop (1 + 10 * i) == []) = false := by simp; omega
            rw [readG_no fun h => by obtain ⟨q1, q2⟩ := hsh h; omega]
            simp (config := {maxSteps := 4000000}) only [U_leaf_read_api_Ext, d, d2, reduceIte, reduceCtorEq, Nat.reduceEqDiff, Nat.reduceAdd, Int.reduceLT, Int.reduceLE, Int.reduceNeg, Int.reduceEq, Nat.reduceLT, Nat.reduceSub, Nat.reduceMul, Nat.reduceBEq, Nat.reduceLeDiff, Int.reduceBEq, Int.reduceBNe, Int.reduceToNat, ne_eq, implies_true, bA]
    · have d1 : decide ((8 : Int) < (n1 : Int)) = true := by simp; omega
      rw [readG_no fun h => by obtain ⟨q1, q2⟩ := hsh h; have : manyG 10 s ≤ 8 := by unfold manyG; omega
                               omega]
      simp (config := {maxSteps := 4000000}) only [U_leaf_read_api_Ext, d0, hi0, d1, reduceIte, reduceCtorEq, Nat.reduceEqDiff, Nat.reduceAdd, Int.reduceLT, Int.reduceLE, Int.reduceNeg, Int.reduceEq, Nat.reduceLT, Nat.reduceSub, Nat.reduceMul, Nat.reduceBEq, Nat.reduceLeDiff, Int.reduceBEq, Int.reduceBNe, Int.reduceToNat, ne_eq, implies_true, bA]
theorem kidWidths_spec : PCall Try.prog 34 [] (.slc (rowsZ .i64 [3, 2])) := by
  refine pcall_go Try.func34 comp_leaf_kidWidths ?_
  simp (config := {maxSteps := 4000000}) only [U_leaf_kidWidths, reduceIte, reduceCtorEq, Nat.reduceEqDiff, Nat.reduceAdd, Int.reduceLT, Int.reduceLE, Int.reduceNeg, Int.reduceEq, Nat.reduceLT, Nat.reduceSub, Nat.reduceMul, Nat.reduceBEq, Nat.reduceLeDiff, Int.reduceBEq, Int.reduceBNe, Int.reduceToNat, ne_eq, implies_true, bA]
  rfl
theorem leaf_Inner_c1_spec (e : Kd) (h : FitK e) : PCall Try.prog 38 [pK e] (.slc (rowsN .u64 (numK e))) := by
  refine pcall_go Try.func38 comp_leaf_Inner_c1 ?_
  obtain ⟨a, b, c, d⟩ := h
  have u0 : IntKind.u64.wrap e.ky = ((e.ky.toNat : Nat) : Int) := wrapU_nat (by omega) (by omega)
  have u1 : IntKind.u64.wrap e.at_ = ((e.at_.toNat : Nat) : Int) := wrapU_nat (by omega) (by omega)
  simp (config := {maxSteps := 4000000}) only [U_leaf_Inner_c1, rowK, u0, u1, reduceIte, reduceCtorEq, Nat.reduceEqDiff, Nat.reduceAdd, Int.reduceLT, Int.reduceLE, Int.reduceNeg, Int.reduceEq, Nat.reduceLT, Nat.reduceSub, Nat.reduceMul, Nat.reduceBEq, Nat.reduceLeDiff, Int.reduceBEq, Int.reduceBNe, Int.reduceToNat, ne_eq, implies_true, bA]
  rfl
theorem writeKid_spec (l : List Kd) (h8 : l.length ≤ 8) (hf : ∀ e ∈ l, FitK e) : PCall Try.prog 37 [.slc (l.map rowK), .slc (rowsZ .i64 [3, 2]), .fn (.func 38) [] []] (.tup [.str (recG entK l), .int .i64 0]) := by
  refine pcall_go Try.func37 comp_leaf_write_api_Kid ?_
  have e0 : IntKind.u8.wrap (l.length : Int) = (((UInt8.ofNat l.length).toNat : Nat) : Int) := byte8 _
  simp (config := {maxSteps := 4000000}) only [U_leaf_write_api_Kid, e0, bytesOf_len, reduceIte, reduceCtorEq, Nat.reduceEqDiff, Nat.reduceAdd, Int.reduceLT, Int.reduceLE, Int.reduceNeg, Int.reduceEq, Nat.reduceLT, Nat.reduceSub, Nat.reduceMul, Nat.reduceBEq, Nat.reduceLeDiff, Int.reduceBEq, Int.reduceBNe, Int.reduceToNat, ne_eq, implies_true, bA]
  refine loopF (fun i : Nat => ⟨ofL [(1, .slc (rowsZ .i64 [3, 2])), (2, .fn (.func 38) [] []), (8, .str (accG entK l i)), (18, .slc (l.map rowK)), (19, .int .i64 l.length), (20, .int .i64 i)], []⟩) (fun i => i ≤ l.length) (fun i => l.length - i) 0 ?_ (Nat.zero_le _) ?_
  · simp (config := {maxSteps := 4000000}) only [U_leaf_write_api_Kid, accG_0, reduceIte, reduceCtorEq, Nat.reduceEqDiff, Nat.reduceAdd, Int.reduceLT, Int.reduceLE, Int.reduceNeg, Int.reduceEq, Nat.reduceLT, Nat.reduceSub, Nat.reduceMul, Nat.reduceBEq, Nat.reduceLeDiff, Int.reduceBEq, Int.reduceBNe, Int.reduceToNat, ne_eq, implies_true, bA]
    all_goals rfl
  · intro i hi
    by_cases h : i < l.length
    · have d : decide ((i : Int) < (l.length : Int)) = true := by simpa using h
      have e1 : IntKind.i64.wrap ((i : Int) + 1) = ((i + 1 : Nat) : Int) := by rw [wrapI (by omega) (by omega)]; omega
      have ho := hf _ (List.getElem_mem h)
      simp (config := {maxSteps := 4000000}) only [U_leaf_write_api_Kid, d, islV_map (g := rowK) h (rowK_len _), rowK, reduceIte, reduceCtorEq, Nat.reduceEqDiff, Nat.reduceAdd, Int.reduceLT, Int.reduceLE, Int.reduceNeg, Int.reduceEq, Nat.reduceLT, Nat.reduceSub, Nat.reduceMul, Nat.reduceBEq, Nat.reduceLeDiff, Int.reduceBEq, Int.reduceBNe, Int.reduceToNat, ne_eq, implies_true, bA]
      refine callI (leaf_Inner_c1_spec l[i] ho) ?_
      simp (config := {maxSteps := 4000000}) only [U_leaf_write_api_Kid, reduceIte, reduceCtorEq, Nat.reduceEqDiff, Nat.reduceAdd, Int.reduceLT, Int.reduceLE, Int.reduceNeg, Int.reduceEq, Nat.reduceLT, Nat.reduceSub, Nat.reduceMul, Nat.reduceBEq, Nat.reduceLeDiff, Int.reduceBEq, Int.reduceBNe, Int.reduceToNat, ne_eq, implies_true, bA]
      refine callI (row_spec (numK l[i]) [3, 2] (by simp [numK]) (by simp) (by
        intro n hn
        obtain ⟨a, b, c, d⟩ := ho
        simp only [numK, List.mem_cons, List.not_mem_nil, or_false] at hn
        rcases hn with rfl | rfl <;> omega)) ?_
      rw [row_entK l[i] ho]
      have hal := accG_len entK_len l i hi
      have hf2 : binS .add (accG entK l i) (entK l[i]) = some (.str (accG entK l (i + 1))) := by
        rw [binS_cat (by rw [entK_len]; omega), accG_succ l i h]
      simp (config := {maxSteps := 4000000}) only [U_leaf_write_api_Kid, hf2, e1, reduceIte, reduceCtorEq, Nat.reduceEqDiff, Nat.reduceAdd, Int.reduceLT, Int.reduceLE, Int.reduceNeg, Int.reduceEq, Nat.reduceLT, Nat.reduceSub, Nat.reduceMul, Nat.reduceBEq, Nat.reduceLeDiff, Int.reduceBEq, Int.reduceBNe, Int.reduceToNat, ne_eq, implies_true, bA]
      exact ⟨i + 1, rfl, h, by omega⟩
    · have d : decide ((i : Int) < (l.length : Int)) = false := by simpa using h
      have : i = l.length := by omega
      subst this
      simp (config := {maxSteps := 4000000}) only [U_leaf_write_api_Kid, d, accG_all, reduceIte, reduceCtorEq, Nat.reduceEqDiff, Nat.reduceAdd, Int.reduceLT, Int.reduceLE, Int.reduceNeg, Int.reduceEq, Nat.reduceLT, Nat.reduceSub, Nat.reduceMul, Nat.reduceBEq, Nat.reduceLeDiff, Int.reduceBEq, Int.reduceBNe, Int.reduceToNat, ne_eq, implies_true, bA]
theorem leaf_ReadInner_c1_spec (m0 m1 : Nat) (h0 : m0 < 4294967296) (h1 : m1 < 4294967296) : PCall Try.prog 36 [.slc (rowsN .u64 [m0, m1])] (pK ⟨(m0 : Int), (m1 : Int)⟩) := by
  refine pcall_go Try.func36 comp_leaf_ReadInner_c1 ?_
  have j0 : ∀ ob fb, islV ob fb 1 (.slc (rowsN .u64 [m0, m1])) (.int .i64 0) = some (.fptr [.int .u64 (m0 : Int)]) := fun _ _ => rfl
  have j1 : ∀ ob fb, islV ob fb 1 (.slc (rowsN .u64 [m0, m1])) (.int .i64 1) = some (.fptr [.int .u64 (m1 : Int)]) := fun _ _ => rfl
  have c0 : IntKind.i64.wrap (m0 : Int) = (m0 : Int) := wrapI (by omega) (by omega)
  have c1 : IntKind.i64.wrap (m1 : Int) = (m1 : Int) := wrapI (by omega) (by omega)
  simp (config := {maxSteps := 4000000}) only [U_leaf_ReadInner_c1, j0, c0, j1, c1, reduceIte, reduceCtorEq, Nat.reduceEqDiff, Nat.reduceAdd, Int.reduceLT, Int.reduceLE, Int.reduceNeg, Int.reduceEq, Nat.reduceLT, Nat.reduceSub, Nat.reduceMul, Nat.reduceBEq, Nat.reduceLeDiff, Int.reduceBEq, Int.reduceBNe, Int.reduceToNat, ne_eq, implies_true, bA]
  rfl
theorem readKid_spec (hmay : ∀ l : List Kd, l.length ≤ 300 → PCall Try.prog 35 [.slc (l.map rowK)] (.bool (kidsB l))) (s : List UInt8) (hs : s.length ≤ 1000000) :
    PCall Try.prog 33 [.str s, .slc (rowsZ .i64 [3, 2]), .fn (.func 35) [] [], .fn (.func 36) [] []] (.tup [.slc ((readG entK kdAt 5 kidsB s).1.map rowK), .int .i64 (readG entK kdAt 5 kidsB s).2]) := by
  refine pcall_go Try.func33 comp_leaf_read_api_Kid ?_
  have hsh := good_shape (ent := entK) (p := kdAt) (k := 5) (may := kidsB) entK_len (s := s)
  by_cases h0 : s = []
  · have d0 : (s == []) = true := by simp [h0]
    rw [readG_no fun h => by have := (hsh h).1; rw [h0] at this; simp only [List.length_nil] at this; omega]
    simp (config := {maxSteps := 4000000}) only [U_leaf_read_api_Kid, d0, reduceIte, reduceCtorEq, Nat.reduceEqDiff, Nat.reduceAdd, Int.reduceLT, Int.reduceLE, Int.reduceNeg, Int.reduceEq, Nat.reduceLT, Nat.reduceSub, Nat.reduceMul, Nat.reduceBEq, Nat.reduceLeDiff, Int.reduceBEq, Int.reduceBNe, Int.reduceToNat, ne_eq, implies_true, bA]
  · have d0 : (s == []) = false := by simp [h0]
    have hl0 : 0 < s.length := List.length_pos_iff.2 h0
    have hi0 : idxsV (.str s) (.int .i64 0) = some (.int .u8 ((leN (s.take 1) : Nat) : Int)) := by
      cases s with
      | nil => exact absurd rfl h0
      | cons b t => simp [idxsV, leN]
    have g1 : sstrV (.str s) (some (some 1)) (some none) = some (.str (s.drop 1)) := sstrV_from (i := 1) (by omega)
    have hrec := fun n => recG_out (ent := entK) (p := kdAt) (k := 5) (fun a s h => enc_kid a s h) (s := s) (n := n)
    have hb : leN (s.take 1) < 256 := by have := leN_lt (s.take 1); rw [show (s.take 1).length = 1 by simp; omega] at this; exact this
    generalize leN (s.take 1) = n1 at *
    by_cases h8 : n1 ≤ 8
    · have d1 : decide ((8 : Int) < (n1 : Int)) = false := by simp; omega
      simp (config := {maxSteps := 4000000}) only [U_leaf_read_api_Kid, d0, hi0, d1, g1, reduceIte, reduceCtorEq, Nat.reduceEqDiff, Nat.reduceAdd, Int.reduceLT, Int.reduceLE, Int.reduceNeg, Int.reduceEq, Nat.reduceLT, Nat.reduceSub, Nat.reduceMul, Nat.reduceBEq, Nat.reduceLeDiff, Int.reduceBEq, Int.reduceBNe, Int.reduceToNat, ne_eq, implies_true, bA]
      refine loopF (fun i : Nat => ⟨ofL [(1, .slc (rowsZ .i64 [3, 2])), (2, .fn (.func 35) [] []), (3, .fn (.func 36) [] []), (10, .osl 0 0 i), (11, .str (s.drop (1 + 5 * i))), (25, .int .u8 n1), (26, .int .u8 i)], [.list 2 ((outG kdAt 5 s i).map rowK)]⟩) (fun i => i ≤ n1 ∧ 1 + 5 * i ≤ s.length) (fun i => n1 - i) 0 ?_ ⟨Nat.zero_le _, by omega⟩ ?_
      · simp (config := {maxSteps := 4000000}) only [U_leaf_read_api_Kid, reduceIte, reduceCtorEq, Nat.reduceEqDiff, Nat.reduceAdd, Int.reduceLT, Int.reduceLE, Int.reduceNeg, Int.reduceEq, Nat.reduceLT, Nat.reduceSub, Nat.reduceMul, Nat.reduceBEq, Nat.reduceLeDiff, Int.reduceBEq, Int.reduceBNe, Int.reduceToNat, ne_eq, implies_true, bA]
        all_goals rfl
      · intro i ⟨hi, hil⟩
        by_cases hlt : i < n1
        · have d : decide ((i : Int) < (n1 : Int)) = true := by simpa using hlt
          have e1 : IntKind.u8.wrap ((i : Int) + 1) = ((i + 1 : Nat) : Int) := by rw [wrap8]; omega
          simp (config := {maxSteps := 4000000}) only [U_leaf_read_api_Kid, d, reduceIte, reduceCtorEq, Nat.reduceEqDiff, Nat.reduceAdd, Int.reduceLT, Int.reduceLE, Int.reduceNeg, Int.reduceEq, Nat.reduceLT, Nat.reduceSub, Nat.reduceMul, Nat.reduceBEq, Nat.reduceLeDiff, Int.reduceBEq, Int.reduceBNe, Int.reduceToNat, ne_eq, implies_true, bA]
          refine callI (take_spec (s.drop (1 + 5 * i)) [3, 2] (by simp; omega) (by simp)) ?_
          by_cases h9 : s.length < 1 + 5 * i + 5
          · rw [take_kid_no _ (by simp; omega), readG_no (fun h => by obtain ⟨q1, q2⟩ := hsh h; omega)]
            simp (config := {maxSteps := 4000000}) only [U_leaf_read_api_Kid, reduceIte, reduceCtorEq, Nat.reduceEqDiff, Nat.reduceAdd, Int.reduceLT, Int.reduceLE, Int.reduceNeg, Int.reduceEq, Nat.reduceLT, Nat.reduceSub, Nat.reduceMul, Nat.reduceBEq, Nat.reduceLeDiff, Int.reduceBEq, Int.reduceBNe, Int.reduceToNat, ne_eq, implies_true, bA]
          · rw [take_kid _ (by simp; omega)]
            simp only [List.drop_drop]
            have v0 : gS s (1 + 5 * i) 3 = (leN ((s.drop (1 + 5 * i)).take 3) : Int) := gS_in (by decide) (by decide) (by omega)
            have v1 : gS s (1 + 5 * i + 3) 2 = (leN ((s.drop (1 + 5 * i + 3)).take 2) : Int) := gS_in (by decide) (by decide) (by omega)
            have t0 := leN_lt ((s.drop (1 + 5 * i)).take 3)
            rw [show ((s.drop (1 + 5 * i)).take 3).length = 3 by simp; omega] at t0
            have t1 := leN_lt ((s.drop (1 + 5 * i + 3)).take 2)
            rw [show ((s.drop (1 + 5 * i + 3)).take 2).length = 2 by simp; omega] at t1
            have hsucc := outG_succ (p := kdAt) (k := 5) s i
            have hsp : kdAt s (1 + 5 * i) = ⟨gS s (1 + 5 * i) 3, gS s (1 + 5 * i + 3) 2⟩ := rfl
            have hol := outG_len (p := kdAt) (k := 5) s i
            rw [v0, v1] at hsp
            generalize leN ((s.drop (1 + 5 * i)).take 3) = m0 at *
            generalize leN ((s.drop (1 + 5 * i + 3)).take 2) = m1 at *
            have ha : ∀ ob nw, appO (AObj.list 2 ((outG kdAt 5 s i).map rowK) :: ob) [] nw 2 (.osl 0 0 i) (some [[.int .i64 (m0 : Int), .int .i64 (m1 : Int)]]) = some (.osl 0 0 (i + 1), AObj.list 2 ((outG kdAt 5 s (i + 1)).map rowK) :: ob) := fun ob nw => by
              have := app_map (ob := AObj.list 2 ((outG kdAt 5 s i).map rowK) :: ob) (fb := []) (nw := nw) (o := 0) (n := i) (e := 2) (g := rowK) (l := outG kdAt 5 s i) (m := [kdAt s (1 + 5 * i)]) rfl rfl hol.symm (by omega) (by simp) rowK_len
              rw [hsucc]; rw [hsp] at this ⊢
              exact this
            simp (config := {maxSteps := 4000000}) only [U_leaf_read_api_Kid, reduceIte, reduceCtorEq, Nat.reduceEqDiff, Nat.reduceAdd, Int.reduceLT, Int.reduceLE, Int.reduceNeg, Int.reduceEq, Nat.reduceLT, Nat.reduceSub, Nat.reduceMul, Nat.reduceBEq, Nat.reduceLeDiff, Int.reduceBEq, Int.reduceBNe, Int.reduceToNat, ne_eq, implies_true, bA]
            refine callI (leaf_ReadInner_c1_spec m0 m1 (by omega) (by omega)) ?_
            simp (config := {maxSteps := 4000000}) only [U_leaf_read_api_Kid, rowK, ha, e1, reduceIte, reduceCtorEq, Nat.reduceEqDiff, Nat.reduceAdd, Int.reduceLT, Int.reduceLE, Int.reduceNeg, Int.reduceEq, Nat.reduceLT, Nat.reduceSub, Nat.reduceMul, Nat.reduceBEq, Nat.reduceLeDiff, Int.reduceBEq, Int.reduceBNe, Int.reduceToNat, ne_eq, implies_true, bA]
            refine ⟨i + 1, ?_, ⟨hlt, by omega⟩, by omega⟩
            rw [show 1 + 5 * (i + 1) = 1 + 5 * i + 5 by omega]
        · have d : decide ((i : Int) < (n1 : Int)) = false := by simpa using hlt
          have hin : i = n1 := by omega
          subst hin
          have hro : rowsO (some (AObj.list 2 ((outG kdAt 5 s i).map rowK))) 0 i = some ((outG kdAt 5 s i).map rowK) := rowsO_all (by simp [outG_len])
          by_cases hrest : s.length = 1 + 5 * i
          · have d2 : (s.drop (1 + 5 * i) == []) = true := by simp; omega
            have hm := many_eq (k := 5) (by decide) h8 hrest
            simp (config := {maxSteps := 4000000}) only [U_leaf_read_api_Kid, d, d2, hro, reduceIte, reduceCtorEq, Nat.reduceEqDiff, Nat.reduceAdd, Int.reduceLT, Int.reduceLE, Int.reduceNeg, Int.reduceEq, Nat.reduceLT, Nat.reduceSub, Nat.reduceMul, Nat.reduceBEq, Nat.reduceLeDiff, Int.reduceBEq, Int.reduceBNe, Int.reduceToNat, ne_eq, implies_true, bA]
            refine callS (hmay (outG kdAt 5 s i) (by rw [outG_len]; omega)) rfl ?_
            cases hq : kidsB (outG kdAt 5 s i) with
            | true =>
              rw [readG_yes ⟨by rw [hm]; exact hq, by rw [hm]; exact hrec i rfl hrest⟩, hm]
              simp (config := {maxSteps := 4000000}) only [U_leaf_read_api_Kid, hro, reduceIte, reduceCtorEq, Nat.reduceEqDiff, Nat.reduceAdd, Int.reduceLT, Int.reduceLE, Int.reduceNeg, Int.reduceEq, Nat.reduceLT, Nat.reduceSub, Nat.reduceMul, Nat.reduceBEq, Nat.reduceLeDiff, Int.reduceBEq, Int.reduceBNe, Int.reduceToNat, ne_eq, implies_true, bA]
            | false =>
              rw [readG_no fun h => by have := h.1; rw [hm, hq] at this; cases this]
              simp (config := {maxSteps := 4000000}) only [U_leaf_read_api_Kid, reduceIte, reduceCtorEq, Nat.reduceEqDiff, Nat.reduceAdd, Int.reduceLT, Int.reduceLE, Int.reduceNeg, Int.reduceEq, Nat.reduceLT, Nat.reduceSub, Nat.reduceMul, Nat.reduceBEq, Nat.reduceLeDiff, Int.reduceBEq, Int.reduceBNe, Int.reduceToNat, ne_eq, implies_true, bA]
          · have d2 : (s.drop (1 + 5 * i) == []) = false := by simp; omega
            rw [readG_no fun h => by obtain ⟨q1, q2⟩ := hsh h; omega]
            simp (config := {maxSteps := 4000000}) only [U_leaf_read_api_Kid, d, d2, reduceIte, reduceCtorEq, Nat.reduceEqDiff, Nat.reduceAdd, Int.reduceLT, Int.reduceLE, Int.reduceNeg, Int.reduceEq, Nat.reduceLT, Nat.reduceSub, Nat.reduceMul, Nat.reduceBEq, Nat.reduceLeDiff, Int.reduceBEq, Int.reduceBNe, Int.reduceToNat, ne_eq, implies_true, bA]
    · have d1 : decide ((8 : Int) < (n1 : Int)) = true := by simp; omega
      rw [readG_no fun h => by obtain ⟨q1, q2⟩ := hsh h; have : manyG 5 s ≤ 8 := by unfold manyG; omega
                               omega]
      simp (config := {maxSteps := 4000000}) only [U_leaf_read_api_Kid, d0, hi0, d1, reduceIte, reduceCtorEq, Nat.reduceEqDiff, Nat.reduceAdd, Int.reduceLT, Int.reduceLE, Int.reduceNeg, Int.reduceEq, Nat.reduceLT, Nat.reduceSub, Nat.reduceMul, Nat.reduceBEq, Nat.reduceLeDiff, Int.reduceBEq, Int.reduceBNe, Int.reduceToNat, ne_eq, implies_true, bA]
end Go.Proofs.Ytlkpceacmfndlaa.Aw
